/- Texts joined, in order: Up, Uq, Ur. -/
import Derived.Test.YtciokebdmnaobaaDoorZShUo
/- Patterns, plain laws: one behind the other; doubled percent signs. -/
namespace Go.Proofs.YtciokebdmnaobaaDoor
open Go Go.Eng
set_option maxHeartbeats 4000000
set_option linter.unusedSimpArgs false
set_option linter.unusedVariables false
set_option maxRecDepth 100000

theorem flagsP_app (s : List UInt8) : ∀ (l acc : List UInt8), (flagsP acc l).2 ≠ [] → flagsP acc (l ++ s) = ((flagsP acc l).1, (flagsP acc l).2 ++ s)
  | [], acc, h => absurd rfl h
  | c :: r, acc, h => by
    simp only [flagsP, List.cons_append] at h ⊢
    split
    · rename_i h1
      rw [if_pos h1] at h
      exact flagsP_app s r _ h
    · rfl
theorem digsP_app (s : List UInt8) : ∀ (n : Nat) (l : List UInt8), (digsP n l).length < l.length → digsP n (l ++ s) = digsP n l
  | 0, l, h => by simp [digsP]
  | n + 1, [], h => by simp [digsP] at h
  | n + 1, c :: r, h => by
    simp only [digsP, List.cons_append] at h ⊢
    split
    · rename_i h1
      rw [if_pos h1] at h
      rw [digsP_app s n r (by simpa using h)]
    · rfl
theorem precP_app (s l : List UInt8) (h : (precP l).2 ≠ []) : precP (l ++ s) = ((precP l).1, (precP l).2 ++ s) := by
  match l, h with
  | [], h => exact absurd rfl h
  | c :: r, h =>
    simp only [precP, List.cons_append] at h ⊢
    split
    · rename_i h1
      rw [if_pos h1] at h
      simp only at h
      have hl : (digsP 4 r).length < r.length := by
        rcases Nat.lt_or_ge (digsP 4 r).length r.length with h2 | h2
        · exact h2
        · exact absurd (List.drop_eq_nil_of_le h2) h
      rw [digsP_app s 4 r hl, List.drop_append_of_le_length (by omega)]
    · rfl
theorem verbP_app {fl : List UInt8} {w : Nat} {p : Int} {n : Nat} {l : List UInt8} {d : Dir} (s : List UInt8) (h : verbP fl w p n l = some d) : verbP fl w p (n + s.length) (l ++ s) = some d := by
  match l, h with
  | [], h => simp [verbP] at h
  | v :: r, h =>
    simp only [verbP, List.cons_append] at h ⊢
    split at h
    · rename_i h1
      rw [if_pos h1, ← h, List.length_append, Nat.add_sub_add_right]
    · cases h
theorem verbP_ne {fl : List UInt8} {w : Nat} {p : Int} {n : Nat} {l : List UInt8} {d : Dir} (h : verbP fl w p n l = some d) : l ≠ [] := by
  rintro rfl
  simp [verbP] at h
theorem widthP_app {fl : List UInt8} {n : Nat} {l : List UInt8} {d : Dir} (s : List UInt8) (h : widthP fl n l = some d) : widthP fl (n + s.length) (l ++ s) = some d := by
  unfold widthP at h ⊢
  split at h
  · cases h
  · rename_i h1
    have hne := verbP_ne h
    have hl : (digsP 4 l).length < l.length := by
      rcases Nat.lt_or_ge (digsP 4 l).length l.length with h2 | h2
      · exact h2
      · rw [List.drop_eq_nil_of_le h2] at hne
        exact absurd rfl hne
    rw [digsP_app s 4 l hl, if_neg h1, List.drop_append_of_le_length (by omega), precP_app s _ hne]
    exact verbP_app s h
theorem widthP_ne {fl : List UInt8} {n : Nat} {l : List UInt8} {d : Dir} (h : widthP fl n l = some d) : l ≠ [] := by
  rintro rfl
  unfold widthP at h
  split at h
  · cases h
  · exact verbP_ne h rfl
theorem headIs_app (c : UInt8) {l : List UInt8} (s : List UInt8) (h : l ≠ []) : headIs c (l ++ s) = headIs c l := by
  match l, h with
  | [], h => exact absurd rfl h
  | d :: r, _ => rfl
theorem parseP_app {l : List UInt8} {d : Dir} (s : List UInt8) (h : parseP l = some d) : parseP (l ++ s) = some d := by
  unfold parseP at h ⊢
  split at h
  · rename_i h1
    have hne : l ≠ [] := by rintro rfl; simp [headIs] at h1
    rw [headIs_app 37 s hne, if_pos h1]
    exact h
  · rename_i h1
    have hne := widthP_ne h
    have hne2 : l ≠ [] := by rintro rfl; exact hne rfl
    rw [headIs_app 37 s hne2, if_neg h1, flagsP_app s l [] hne, List.length_append, Nat.add_right_comm]
    exact widthP_app s h
theorem parseP_le {l : List UInt8} {d : Dir} (h : parseP l = some d) : 2 ≤ d.size ∧ d.size ≤ l.length + 1 := by
  obtain ⟨h1, h2, h3, _⟩ := parseP_size h
  refine ⟨h1, ?_⟩
  by_cases hv : d.verb = 37
  · obtain ⟨h4, h5⟩ := h3 hv
    match l, h5 with
    | c :: r, _ => rw [h4]; simp
  · exact (h2 hv).1

theorem fmtF_nil {f at_ : Nat} {args : List AV} {out : List UInt8} : fmtF (f + 1) at_ [] args out = if args.length = 0 then (out, 0, at_) else ([], 3, at_) := by
  simp only [fmtF]

/-- One pattern behind the other: the first part. -/
theorem fmtF_join : ∀ (f at_ : Nat) (l : List UInt8) (args : List AV) (out A : List UInt8) (n : Nat), fmtF f at_ l args out = (A, 0, n) → l.length < f →
    n = at_ + l.length ∧ args.length ≤ l.length ∧ out.length ≤ A.length ∧ ∀ (s : List UInt8) (more : List AV) (f' : Nat), l.length + s.length < f' → ∃ f'', s.length < f'' ∧ fmtF f' at_ (l ++ s) (args ++ more) out = fmtF f'' n s more A
  | 0, _, _, _, _, _, _, _, h => absurd h (Nat.not_lt_zero _)
  | f + 1, at_, [], args, out, A, n, h, hl => by
    rw [fmtF_nil] at h
    split at h
    · rename_i h1
      simp only [Prod.mk.injEq, true_and] at h
      obtain ⟨rfl, rfl⟩ := h
      obtain rfl := List.eq_nil_of_length_eq_zero h1
      exact ⟨rfl, Nat.le_refl _, Nat.le_refl _, fun s more f' hf => ⟨f', by simpa using hf, rfl⟩⟩
    · simp at h
  | f + 1, at_, c :: r, args, out, A, n, h, hl => by
    simp only [List.length_cons] at hl
    have step : ∀ (k : Nat) (args' more' : List AV) (x : List UInt8), 1 ≤ k → k ≤ r.length + 1 → args.length ≤ args'.length + 1 → fmtF f (at_ + k) ((c :: r).drop k) args' (out ++ x) = (A, 0, n) →
        n = at_ + (c :: r).length ∧ args.length ≤ (c :: r).length ∧ out.length ≤ A.length ∧
        ∀ (s : List UInt8) (more : List AV) (f0 : Nat), (c :: r).length + s.length < f0 + 1 → ∃ f'', s.length < f'' ∧ fmtF f0 (at_ + k) ((c :: (r ++ s)).drop k) (args' ++ more) (out ++ x) = fmtF f'' n s more A := by
      intro k args' _ x hk1 hk2 ha he
      have hd : ((c :: r).drop k).length = r.length + 1 - k := by simp
      obtain ⟨q1, q2, q3, q4⟩ := fmtF_join f (at_ + k) ((c :: r).drop k) args' (out ++ x) A n he (by omega)
      refine ⟨by rw [q1, hd, List.length_cons]; omega, by rw [List.length_cons]; omega, by rw [List.length_append] at q3; omega, fun s more f0 hf => ?_⟩
      obtain ⟨f'', q5, q6⟩ := q4 s more f0 (by rw [hd]; rw [List.length_cons] at hf; omega)
      refine ⟨f'', q5, ?_⟩
      rw [← q6, show c :: (r ++ s) = (c :: r) ++ s from rfl, List.drop_append_of_le_length (by simpa using hk2)]
    by_cases hc : c = 37
    · subst hc
      cases hp : parseP r with
      | none => rw [fmtF_none hp] at h; simp at h
      | some d =>
        obtain ⟨hs1, hs2⟩ := parseP_le hp
        by_cases hv : d.verb = 37
        · rw [fmtF_pct hp hv] at h
          split at h
          · simp at h
          · rename_i h0
            obtain ⟨q1, q2, q3, q4⟩ := step d.size args [] [37] (by omega) (by omega) (by omega) h
            refine ⟨q1, q2, q3, fun s more f' hf => ?_⟩
            obtain ⟨f0, rfl⟩ : ∃ f0, f' = f0 + 1 := ⟨f' - 1, by omega⟩
            obtain ⟨f'', q5, q6⟩ := q4 s more f0 hf
            refine ⟨f'', q5, ?_⟩
            rw [List.cons_append, fmtF_pct (parseP_app s hp) hv, if_neg h0]
            exact q6
        · cases args with
          | nil => rw [fmtF_noarg hp hv] at h; simp at h
          | cons a rest =>
            rw [fmtF_arg hp hv] at h
            split at h
            · rename_i h00
              split at h
              · simp at h
              · rename_i h0
                obtain ⟨q1, q2, q3, q4⟩ := step d.size rest [] (textP d a) (by omega) (by omega) (by simp) h
                refine ⟨q1, q2, q3, fun s more f' hf => ?_⟩
                obtain ⟨f0, rfl⟩ : ∃ f0, f' = f0 + 1 := ⟨f' - 1, by omega⟩
                obtain ⟨f'', q5, q6⟩ := q4 s more f0 hf
                refine ⟨f'', q5, ?_⟩
                rw [List.cons_append, List.cons_append, fmtF_arg (parseP_app s hp) hv, if_pos h00, if_neg h0]
                exact q6
            · simp at h
    · rw [fmtF_plain hc] at h
      split at h
      · simp at h
      · rename_i h0
        obtain ⟨q1, q2, q3, q4⟩ := step 1 args [] [c] (by omega) (by omega) (by omega) h
        refine ⟨q1, q2, q3, fun s more f' hf => ?_⟩
        obtain ⟨f0, rfl⟩ : ∃ f0, f' = f0 + 1 := ⟨f' - 1, by omega⟩
        obtain ⟨f'', q5, q6⟩ := q4 s more f0 hf
        refine ⟨f'', q5, ?_⟩
        rw [List.cons_append, fmtF_plain hc, if_neg h0]
        exact q6

/-- The second part, behind what stands there. -/
theorem fmtF_shift (pre : List UInt8) (k : Nat) : ∀ (f at_ : Nat) (l : List UInt8) (args : List AV) (out A : List UInt8) (n : Nat), fmtF f at_ l args out = (A, 0, n) → l.length < f → pre.length + A.length ≤ 65536 →
    ∀ f', l.length < f' → fmtF f' (k + at_) l args (pre ++ out) = (pre ++ A, 0, k + n)
  | 0, _, _, _, _, _, _, _, h, _, _, _ => absurd h (Nat.not_lt_zero _)
  | f + 1, at_, [], args, out, A, n, h, hl, hA, f', hf => by
    obtain ⟨f0, rfl⟩ : ∃ f0, f' = f0 + 1 := ⟨f' - 1, by omega⟩
    rw [fmtF_nil] at h ⊢
    split at h
    · rename_i h1
      simp only [Prod.mk.injEq, true_and] at h
      obtain ⟨rfl, rfl⟩ := h
      rw [if_pos h1]
    · simp at h
  | f + 1, at_, c :: r, args, out, A, n, h, hl, hA, f', hf => by
    obtain ⟨f0, rfl⟩ : ∃ f0, f' = f0 + 1 := ⟨f' - 1, by omega⟩
    simp only [List.length_cons] at hl hf
    have step : ∀ (j : Nat) (args' : List AV) (x : List UInt8), 1 ≤ j → fmtF f (at_ + j) ((c :: r).drop j) args' (out ++ x) = (A, 0, n) →
        ¬ 65536 < (pre ++ out).length + x.length ∧ fmtF f0 (k + at_ + j) ((c :: r).drop j) args' (pre ++ out ++ x) = (pre ++ A, 0, k + n) := by
      intro j args' x hj he
      have hd : ((c :: r).drop j).length = r.length + 1 - j := by simp
      have h3 := (fmtF_join f (at_ + j) ((c :: r).drop j) args' (out ++ x) A n he (by omega)).2.2.1
      rw [List.length_append] at h3
      refine ⟨by rw [List.length_append]; omega, ?_⟩
      rw [List.append_assoc, Nat.add_assoc]
      exact fmtF_shift pre k f (at_ + j) ((c :: r).drop j) args' (out ++ x) A n he (by omega) hA f0 (by omega)
    by_cases hc : c = 37
    · subst hc
      cases hp : parseP r with
      | none => rw [fmtF_none hp] at h; simp at h
      | some d =>
        obtain ⟨hs1, hs2⟩ := parseP_le hp
        by_cases hv : d.verb = 37
        · rw [fmtF_pct hp hv] at h ⊢
          split at h
          · simp at h
          · obtain ⟨q1, q2⟩ := step d.size args [37] (by omega) h
            rw [if_neg (by simpa using q1)]
            exact q2
        · cases args with
          | nil => rw [fmtF_noarg hp hv] at h; simp at h
          | cons a rest =>
            rw [fmtF_arg hp hv] at h ⊢
            split at h
            · rename_i h00
              split at h
              · simp at h
              · obtain ⟨q1, q2⟩ := step d.size rest (textP d a) (by omega) h
                rw [if_pos h00, if_neg q1]
                exact q2
            · simp at h
    · rw [fmtF_plain hc] at h ⊢
      split at h
      · simp at h
      · obtain ⟨q1, q2⟩ := step 1 args [c] (by omega) h
        rw [if_neg (by simpa using q1)]
        exact q2

theorem formatP_joins {f g : List UInt8} {args more : List AV} {A B : List UInt8} {n m : Nat} (h1 : formatP f args = (A, 0, n)) (h2 : formatP g more = (B, 0, m)) (h3 : A.length + B.length ≤ 65536) (h4 : f.length + g.length ≤ 65536) :
    formatP (f ++ g) (args ++ more) = (A ++ B, 0, f.length + g.length) ∧ args.length ≤ f.length ∧ more.length ≤ g.length := by
  unfold formatP at h1 h2 ⊢
  rw [if_neg (by omega)] at h1 h2
  rw [if_neg (by rw [List.length_append]; omega)]
  obtain ⟨q1, q2, q3, q4⟩ := fmtF_join _ _ _ _ _ _ _ h1 (Nat.lt_succ_self _)
  obtain ⟨r1, r2, r3, r4⟩ := fmtF_join _ _ _ _ _ _ _ h2 (Nat.lt_succ_self _)
  obtain ⟨f'', q5, q6⟩ := q4 g more ((f ++ g).length + 1) (by rw [List.length_append]; omega)
  refine ⟨?_, q2, r2⟩
  rw [q6]
  have := fmtF_shift A n _ _ _ _ _ _ _ h2 (Nat.lt_succ_self _) h3 f'' q5
  rw [List.append_nil, Nat.add_zero] at this
  rw [this, q1, r1, Nat.zero_add, Nat.zero_add]

/-! Each percent sign doubled. -/
def dblP : List UInt8 → List UInt8
  | [] => []
  | c :: r => if c = 37 then 37 :: 37 :: dblP r else c :: dblP r
theorem dblP_app : ∀ (l m : List UInt8), dblP (l ++ m) = dblP l ++ dblP m
  | [], m => rfl
  | c :: r, m => by
    simp only [dblP, List.cons_append]
    split
    · rw [dblP_app r m]; rfl
    · rw [dblP_app r m]; rfl
theorem dblP_len : ∀ (l : List UInt8), l.length ≤ (dblP l).length ∧ (dblP l).length ≤ 2 * l.length
  | [] => ⟨Nat.le_refl _, Nat.le_refl _⟩
  | c :: r => by
    have := dblP_len r
    simp only [dblP]
    split <;> simp only [List.length_cons] <;> omega
theorem dblP_plain : ∀ (l : List UInt8), l.contains 37 = false → dblP l = l
  | [], _ => rfl
  | c :: r, h => by
    rw [List.contains_cons, Bool.or_eq_false_iff] at h
    have hc : ¬ c = 37 := by
      rintro rfl
      simp at h
    simp only [dblP]
    rw [if_neg hc, dblP_plain r h.2]
theorem fmtF_dbl : ∀ (l : List UInt8) (f at_ : Nat) (out : List UInt8), (dblP l).length < f → out.length + l.length ≤ 65536 → fmtF f at_ (dblP l) [] out = (out ++ l, 0, at_ + (dblP l).length)
  | [], f, at_, out, hf, hl => by
    obtain ⟨f0, rfl⟩ : ∃ f0, f = f0 + 1 := ⟨f - 1, by omega⟩
    simp only [dblP, fmtF_nil, List.append_nil]
    rfl
  | c :: r, f, at_, out, hf, hl => by
    obtain ⟨f0, rfl⟩ : ∃ f0, f = f0 + 1 := ⟨f - 1, by omega⟩
    simp only [List.length_cons] at hl
    by_cases hc : c = 37
    · subst hc
      have e : dblP (37 :: r) = 37 :: 37 :: dblP r := by simp [dblP]
      rw [e] at hf ⊢
      have hp : parseP (37 :: dblP r) = some ⟨[], 0, -1, 37, 2⟩ := by unfold parseP; rfl
      rw [fmtF_pct hp rfl, if_neg (by omega)]
      simp only [List.length_cons] at hf
      show fmtF f0 (at_ + 2) (dblP r) [] (out ++ [37]) = _
      rw [fmtF_dbl r f0 (at_ + 2) (out ++ [37]) (by omega) (by simp; omega)]
      simp
      omega
    · have e : dblP (c :: r) = c :: dblP r := by simp only [dblP]; rw [if_neg hc]
      rw [e] at hf ⊢
      rw [fmtF_plain hc, if_neg (by omega)]
      simp only [List.length_cons] at hf
      rw [fmtF_dbl r f0 (at_ + 1) (out ++ [c]) (by omega) (by simp; omega)]
      simp
      omega
theorem formatP_dbl (l : List UInt8) (hl : l.length ≤ 20000) : formatP (dblP l) [] = (l, 0, (dblP l).length) := by
  have := dblP_len l
  unfold formatP
  rw [if_neg (by omega), fmtF_dbl l _ _ _ (by omega) (by simp; omega)]
  simp
end Go.Proofs.YtciokebdmnaobaaDoor
/- FormatPlain: a text without a percent sign is itself; one with each of them doubled is read as itself. -/
namespace Go.Proofs.YtciokebdmnaobaaDoor
open Go Go.Eng
set_option maxHeartbeats 4000000
set_option linter.unusedSimpArgs false
set_option linter.unusedVariables false
set_option maxRecDepth 100000

theorem args0 : ArgsOK [] := ⟨fun a h => (List.not_mem_nil h).elim, by decide⟩
theorem contract_args {P : Program} {f : FuncId} {pre : SS} {a b : List SV} {R : SV → SS → Prop} (hd : ∀ E vs, DenL E b vs → DenL E a vs) (h : Contract P f pre a R) : Contract P f pre b R :=
  fun E w vs h0 hw hv => h E w vs h0 hw (hd E vs hv)
/-- A nil list of Args. -/
theorem format0_c (l : List UInt8) : Contract Tryd.prog 11 nilSS [.s (bs l), .ints .u8 .nil []] (isFormat1 (formatP l [])) := by
  refine contract_args (fun E vs h => ?_) (format1_c l [] args0)
  obtain ⟨v1, r1, rfl, h1, h⟩ := denL_cons h
  obtain ⟨v2, r2, rfl, h2, h⟩ := denL_cons h
  obtain rfl := denL_nil h
  simp only [DenL]
  refine ⟨h1, ?_, trivial⟩
  simp only [Den] at h2 ⊢
  obtain ⟨p, c, e1, e2, e3, e4, e5⟩ := h2
  exact ⟨p, c, e1, e2, e3, fun i hi => absurd hi (Nat.not_lt_zero _), trivial⟩

def noPct (l : List UInt8) : Bool := !l.contains 37
theorem take_snoc {l : List UInt8} {i : Nat} (hi : i < l.length) : l.take (i + 1) = l.take i ++ [l[i]] := List.take_succ_eq_append_getElem hi
theorem noPct_snoc (l : List UInt8) (c : UInt8) : noPct (l ++ [c]) = (noPct l && !(c == 37)) := by
  unfold noPct
  rw [List.contains_append, Bool.not_or]
  congr 2
  rw [List.contains_cons, List.contains_nil, Bool.or_false, Bool.beq_comm]
theorem dbl_snoc (l : List UInt8) (c : UInt8) : dblP (l ++ [c]) = dblP l ++ (if c = 37 then [37, 37] else [c]) := by
  rw [dblP_app]
  rfl
theorem one_at {l : List UInt8} {i : Nat} (hi : i < l.length) : (l.take (i + 1)).drop i = [l[i]] := by
  rw [take_snoc hi, List.drop_append_of_le_length (by rw [List.length_take]; omega), List.drop_eq_nil_of_le (by rw [List.length_take]; omega)]
  rfl

theorem formatPlain_c (l : List UInt8) : Contract Tryd.prog 4 nilSS [.s (bs l)] (fun sv post => sv = .b true ∧ post = nilSS) := by
  refine contract_ev Γok Tryd.func4 rfl rfl [] ?_
  simp (maxSteps := 4000000) only [push_cast, Int.reduceEq, Int.reduceBNe, Int.reduceBEq, Int.reduceAdd, Int.reduceSub, Int.reduceMul, Int.reduceNeg, Int.reduceLT, Int.reduceLE, Int.reduceToNat, Nat.reduceLT, Nat.reduceAdd, Nat.reduceSub, Nat.reduceMul, Nat.reduceEqDiff, Nat.reduceLeDiff, Nat.reduceBEq, reduceIte, reduceCtorEq, Tryd.f4, bs_size]
  refine call_w alive17_c [] (by simp (maxSteps := 4000000) only [push_cast, Int.reduceEq, Int.reduceBNe, Int.reduceBEq, Int.reduceAdd, Int.reduceSub, Int.reduceMul, Int.reduceNeg, Int.reduceLT, Int.reduceLE, Int.reduceToNat, Nat.reduceLT, Nat.reduceAdd, Nat.reduceSub, Nat.reduceMul, Nat.reduceEqDiff, Nat.reduceLeDiff, Nat.reduceBEq, reduceIte, reduceCtorEq]) ?_
  rintro sv post ⟨rfl, rfl⟩
  simp (maxSteps := 4000000) only [push_cast, Int.reduceEq, Int.reduceBNe, Int.reduceBEq, Int.reduceAdd, Int.reduceSub, Int.reduceMul, Int.reduceNeg, Int.reduceLT, Int.reduceLE, Int.reduceToNat, Nat.reduceLT, Nat.reduceAdd, Nat.reduceSub, Nat.reduceMul, Nat.reduceEqDiff, Nat.reduceLeDiff, Nat.reduceBEq, reduceIte, reduceCtorEq, bs_size]
  refine ⟨fun h1 => Fin.w [] (.b true) _ (by simp (maxSteps := 4000000) only [push_cast, Int.reduceEq, Int.reduceBNe, Int.reduceBEq, Int.reduceAdd, Int.reduceSub, Int.reduceMul, Int.reduceNeg, Int.reduceLT, Int.reduceLE, Int.reduceToNat, Nat.reduceLT, Nat.reduceAdd, Nat.reduceSub, Nat.reduceMul, Nat.reduceEqDiff, Nat.reduceLeDiff, Nat.reduceBEq, reduceIte, reduceCtorEq]) ⟨rfl, rfl⟩, fun h1 => ?_⟩
  refine loop_ok (ι := {i : Nat // i ≤ l.length}) (fun i => ⟨[.s (bs l), .any, .any, .s (bs (dblP (l.take i.1))), .b (noPct (l.take i.1)), .i .i64 i.1] ++ List.replicate 70 .any, [], [], [], 0, 0, []⟩) (fun i => l.length - i.1) ⟨0, by simp⟩ ?_ ?_
  · refine Sub.w [] ?_
    simp (maxSteps := 4000000) only [push_cast, Int.reduceEq, Int.reduceBNe, Int.reduceBEq, Int.reduceAdd, Int.reduceSub, Int.reduceMul, Int.reduceNeg, Int.reduceLT, Int.reduceLE, Int.reduceToNat, Nat.reduceLT, Nat.reduceAdd, Nat.reduceSub, Nat.reduceMul, Nat.reduceEqDiff, Nat.reduceLeDiff, Nat.reduceBEq, reduceIte, reduceCtorEq]
    exact ⟨rfl, rfl⟩
  · rintro ⟨i, hi⟩
    refine evCode_sound Γok _ _ _ ?_
    simp (maxSteps := 4000000) only [push_cast, Int.reduceEq, Int.reduceBNe, Int.reduceBEq, Int.reduceAdd, Int.reduceSub, Int.reduceMul, Int.reduceNeg, Int.reduceLT, Int.reduceLE, Int.reduceToNat, Nat.reduceLT, Nat.reduceAdd, Nat.reduceSub, Nat.reduceMul, Nat.reduceEqDiff, Nat.reduceLeDiff, Nat.reduceBEq, reduceIte, reduceCtorEq, bs_size]
    refine ⟨fun h2 => ?_, fun h2 => ?_⟩
    · have hi2 : i < l.length := by omega
      have ew : IntKind.i64.wrap ((i : Int) + 1) = (i : Int) + 1 := wrap64 (by omega) (by omega)
      have e1 : (bs l).extract (i : Int).toNat ((i : Int) + 1).toNat = bs [l[i]] := by
        rw [bs_cut, show ((i : Int) + 1).toNat = i + 1 by omega, show (i : Int).toNat = i by omega, one_at hi2]
      have e2 : byteAt (bs l) (i : Int) = (l[i].toNat : Int) := by
        rw [bs_at, show (i : Int).toNat = i by omega, List.getElem?_eq_getElem hi2]; rfl
      have e4 : (⟨#[37]⟩ : ByteArray) = bs [37] := rfl
      have hd := dblP_len (l.take i)
      have ht : (l.take i).length = i := by rw [List.length_take]; omega
      rw [ht] at hd
      generalize hc : l[i] = c at e1 e2
      simp only [ew, e1, e2, e4, bs_app, bs_size, List.length_append, List.length_cons, List.length_nil]
      refine ⟨⟨by omega, by omega, by omega⟩, by omega, ⟨by omega, by omega⟩, fun h3 => ⟨by omega, ⟨i + 1, hi2⟩, by show l.length - (i + 1) < l.length - i; omega, Sub.w [] ?_⟩, fun h3 => ⟨⟨i + 1, hi2⟩, by show l.length - (i + 1) < l.length - i; omega, Sub.w [] ?_⟩⟩
      · have hc37 : c = 37 := by
          apply UInt8.toNat_inj.1
          have : (37 : UInt8).toNat = 37 := rfl
          omega
        subst hc37
        simp (maxSteps := 4000000) only [push_cast, Int.reduceEq, Int.reduceBNe, Int.reduceBEq, Int.reduceAdd, Int.reduceSub, Int.reduceMul, Int.reduceNeg, Int.reduceLT, Int.reduceLE, Int.reduceToNat, Nat.reduceLT, Nat.reduceAdd, Nat.reduceSub, Nat.reduceMul, Nat.reduceEqDiff, Nat.reduceLeDiff, Nat.reduceBEq, reduceIte, reduceCtorEq, take_snoc hi2, hc, noPct_snoc, dbl_snoc]
        rw [List.append_assoc]
        rfl
      · have hc37 : ¬ c = 37 := by
          rintro rfl
          exact h3 rfl
        simp (maxSteps := 4000000) only [push_cast, Int.reduceEq, Int.reduceBNe, Int.reduceBEq, Int.reduceAdd, Int.reduceSub, Int.reduceMul, Int.reduceNeg, Int.reduceLT, Int.reduceLE, Int.reduceToNat, Nat.reduceLT, Nat.reduceAdd, Nat.reduceSub, Nat.reduceMul, Nat.reduceEqDiff, Nat.reduceLeDiff, Nat.reduceBEq, reduceIte, reduceCtorEq, take_snoc hi2, hc, noPct_snoc, dbl_snoc, if_neg hc37]
        rw [beq_eq_false_iff_ne.2 hc37]; simp
    · obtain rfl : i = l.length := by omega
      rw [List.take_length]
      refine call_w (format0_c (dblP l)) [] (by simp (maxSteps := 4000000) only [push_cast, Int.reduceEq, Int.reduceBNe, Int.reduceBEq, Int.reduceAdd, Int.reduceSub, Int.reduceMul, Int.reduceNeg, Int.reduceLT, Int.reduceLE, Int.reduceToNat, Nat.reduceLT, Nat.reduceAdd, Nat.reduceSub, Nat.reduceMul, Nat.reduceEqDiff, Nat.reduceLeDiff, Nat.reduceBEq, reduceIte, reduceCtorEq]) ?_
      rintro sv post ⟨rfl, rfl⟩
      rw [formatP_dbl l (by omega)]
      simp (maxSteps := 4000000) only [push_cast, Int.reduceEq, Int.reduceBNe, Int.reduceBEq, Int.reduceAdd, Int.reduceSub, Int.reduceMul, Int.reduceNeg, Int.reduceLT, Int.reduceLE, Int.reduceToNat, Nat.reduceLT, Nat.reduceAdd, Nat.reduceSub, Nat.reduceMul, Nat.reduceEqDiff, Nat.reduceLeDiff, Nat.reduceBEq, reduceIte, reduceCtorEq]
      refine call_w (num17_c 0) [] (by simp (maxSteps := 4000000) only [push_cast, Int.reduceEq, Int.reduceBNe, Int.reduceBEq, Int.reduceAdd, Int.reduceSub, Int.reduceMul, Int.reduceNeg, Int.reduceLT, Int.reduceLE, Int.reduceToNat, Nat.reduceLT, Nat.reduceAdd, Nat.reduceSub, Nat.reduceMul, Nat.reduceEqDiff, Nat.reduceLeDiff, Nat.reduceBEq, reduceIte, reduceCtorEq]) ?_
      rintro sv post ⟨rfl, rfl⟩
      simp (maxSteps := 4000000) only [push_cast, Int.reduceEq, Int.reduceBNe, Int.reduceBEq, Int.reduceAdd, Int.reduceSub, Int.reduceMul, Int.reduceNeg, Int.reduceLT, Int.reduceLE, Int.reduceToNat, Nat.reduceLT, Nat.reduceAdd, Nat.reduceSub, Nat.reduceMul, Nat.reduceEqDiff, Nat.reduceLeDiff, Nat.reduceBEq, reduceIte, reduceCtorEq, bs_size, bs_str]
      refine call_w (format0_c l) [] (by simp (maxSteps := 4000000) only [push_cast, Int.reduceEq, Int.reduceBNe, Int.reduceBEq, Int.reduceAdd, Int.reduceSub, Int.reduceMul, Int.reduceNeg, Int.reduceLT, Int.reduceLE, Int.reduceToNat, Nat.reduceLT, Nat.reduceAdd, Nat.reduceSub, Nat.reduceMul, Nat.reduceEqDiff, Nat.reduceLeDiff, Nat.reduceBEq, reduceIte, reduceCtorEq]) ?_
      rintro sv post ⟨rfl, rfl⟩
      rcases hp : noPct l with _ | _
      · simp (maxSteps := 4000000) only [push_cast, Int.reduceEq, Int.reduceBNe, Int.reduceBEq, Int.reduceAdd, Int.reduceSub, Int.reduceMul, Int.reduceNeg, Int.reduceLT, Int.reduceLE, Int.reduceToNat, Nat.reduceLT, Nat.reduceAdd, Nat.reduceSub, Nat.reduceMul, Nat.reduceEqDiff, Nat.reduceLeDiff, Nat.reduceBEq, reduceIte, reduceCtorEq]
        exact Fin.w [] (.b true) _ (by simp (maxSteps := 4000000) only [push_cast, Int.reduceEq, Int.reduceBNe, Int.reduceBEq, Int.reduceAdd, Int.reduceSub, Int.reduceMul, Int.reduceNeg, Int.reduceLT, Int.reduceLE, Int.reduceToNat, Nat.reduceLT, Nat.reduceAdd, Nat.reduceSub, Nat.reduceMul, Nat.reduceEqDiff, Nat.reduceLeDiff, Nat.reduceBEq, reduceIte, reduceCtorEq]) ⟨rfl, rfl⟩
      · have e : formatP l [] = (l, 0, (dblP l).length) := by
          have := formatP_dbl l (by omega)
          rwa [dblP_plain l (by unfold noPct at hp; simpa using hp)] at this ⊢
        rw [e]
        simp (maxSteps := 4000000) only [push_cast, Int.reduceEq, Int.reduceBNe, Int.reduceBEq, Int.reduceAdd, Int.reduceSub, Int.reduceMul, Int.reduceNeg, Int.reduceLT, Int.reduceLE, Int.reduceToNat, Nat.reduceLT, Nat.reduceAdd, Nat.reduceSub, Nat.reduceMul, Nat.reduceEqDiff, Nat.reduceLeDiff, Nat.reduceBEq, reduceIte, reduceCtorEq]
        refine call_w (num17_c 0) [] (by simp (maxSteps := 4000000) only [push_cast, Int.reduceEq, Int.reduceBNe, Int.reduceBEq, Int.reduceAdd, Int.reduceSub, Int.reduceMul, Int.reduceNeg, Int.reduceLT, Int.reduceLE, Int.reduceToNat, Nat.reduceLT, Nat.reduceAdd, Nat.reduceSub, Nat.reduceMul, Nat.reduceEqDiff, Nat.reduceLeDiff, Nat.reduceBEq, reduceIte, reduceCtorEq]) ?_
        rintro sv post ⟨rfl, rfl⟩
        simp (maxSteps := 4000000) only [push_cast, Int.reduceEq, Int.reduceBNe, Int.reduceBEq, Int.reduceAdd, Int.reduceSub, Int.reduceMul, Int.reduceNeg, Int.reduceLT, Int.reduceLE, Int.reduceToNat, Nat.reduceLT, Nat.reduceAdd, Nat.reduceSub, Nat.reduceMul, Nat.reduceEqDiff, Nat.reduceLeDiff, Nat.reduceBEq, reduceIte, reduceCtorEq, bs_str]
        exact Fin.w [] (.b true) _ (by simp (maxSteps := 4000000) only [push_cast, Int.reduceEq, Int.reduceBNe, Int.reduceBEq, Int.reduceAdd, Int.reduceSub, Int.reduceMul, Int.reduceNeg, Int.reduceLT, Int.reduceLE, Int.reduceToNat, Nat.reduceLT, Nat.reduceAdd, Nat.reduceSub, Nat.reduceMul, Nat.reduceEqDiff, Nat.reduceLeDiff, Nat.reduceBEq, reduceIte, reduceCtorEq]) ⟨rfl, rfl⟩
theorem formatPlainB_c (s : ByteArray) : Contract Tryd.prog 4 nilSS [.s s] (fun sv post => sv = .b true ∧ post = nilSS) := by
  rw [← bs_of s]
  exact formatPlain_c s.data.toList
end Go.Proofs.YtciokebdmnaobaaDoor
/- FormatJoins: two patterns, one behind the other, with their Args, are their texts, one behind the other. -/
namespace Go.Proofs.YtciokebdmnaobaaDoor
open Go Go.Eng
set_option maxHeartbeats 4000000
set_option linter.unusedSimpArgs false
set_option linter.unusedVariables false
set_option maxRecDepth 100000

theorem one_arg : ∀ (args : List AV) (i : Nat), i < args.length → ∀ (j : Nat), j < 4 → one (argEl args i j) = true
  | [], i, h, _, _ => absurd h (Nat.not_lt_zero _)
  | a :: r, 0, _, j, hj => by
    show one (lget (argC a) j) = true
    match j, hj with
    | 0, _ => rfl
    | 1, _ => rfl
    | 2, _ => rfl
    | 3, _ => rfl
  | a :: r, i + 1, h, j, hj => one_arg r i (by simp at h; omega) j hj
theorem argEl_app : ∀ (args more : List AV) (i j : Nat), argEl (args ++ more) i j = catEl args.length (argEl args) (argEl more) i j
  | [], more, i, j => by simp [catEl]
  | a :: r, more, 0, j => by simp [catEl]; rfl
  | a :: r, more, i + 1, j => by
    have := argEl_app r more i j
    show argEl (r ++ more) i j = _
    rw [this]
    simp only [catEl, List.length_cons]
    by_cases h : i < r.length
    · rw [if_pos h, if_pos (by omega)]; rfl
    · rw [if_neg h, if_neg (by omega), Nat.add_sub_add_right]

theorem ren_arg (f : Nat → Nat) : ∀ (args : List AV) (i j : Nat), ren f (argEl args i j) = argEl args i j
  | [], i, j => by simp only [argEl, elOf, List.map_nil, pickL, lget, ren]
  | a :: r, 0, j => by
    show ren f (lget (argC a) j) = lget (argC a) j
    match j with
    | 0 => rfl
    | 1 => rfl
    | 2 => rfl
    | 3 => rfl
    | n + 4 => rfl
  | a :: r, i + 1, j => ren_arg f r i j
theorem ren_argf (f : Nat → Nat) (args : List AV) : (fun i j => ren f (argEl args i j)) = argEl args := by
  funext i j
  exact ren_arg f args i j
theorem argEl_appf (args more : List AV) : catEl args.length (argEl args) (argEl more) = argEl (args ++ more) := by
  funext i j
  exact (argEl_app args more i j).symm
theorem ArgsOK.app {args more : List AV} (ha : ArgsOK args) (hm : ArgsOK more) (hl : (args ++ more).length ≤ 140737488355328) : ArgsOK (args ++ more) :=
  ⟨fun a h => (List.mem_append.1 h).elim (ha.ok a) (hm.ok a), hl⟩
theorem copyArgs_c (args : List AV) (hl : args.length * 40 ≤ 140737488355328) : Contract Tryd.prog 10 nilSS [.sl 4 .old args.length (argEl args)] (fun sv post => sv = .sl 4 (.tok 0 true) args.length (argEl args) ∧ post = ⟨[], [], [0], [], 1, 0, []⟩) := by
  refine contract_ev Γok Tryd.func10 rfl rfl [] ?_
  have hW : ∀ (f : Nat → Nat) (i : Nat), i < args.length → ∀ (j : Nat), j < 4 → W false f (argEl args i j) (argEl args i j) := fun f i _ j _ => W_arg f args i j
  simp (maxSteps := 4000000) only [push_cast, Int.reduceEq, Int.reduceBNe, Int.reduceBEq, Int.reduceAdd, Int.reduceSub, Int.reduceMul, Int.reduceNeg, Int.reduceLT, Int.reduceLE, Int.reduceToNat, Nat.reduceLT, Nat.reduceAdd, Nat.reduceSub, Nat.reduceMul, Nat.reduceEqDiff, Nat.reduceLeDiff, Nat.reduceBEq, reduceIte, reduceCtorEq, Tryd.f10]
  exact ⟨by omega, Fin.w [0] (.sl 4 (.tok 0 true) args.length (argEl args)) _ (by simp (maxSteps := 4000000) only [push_cast, Int.reduceEq, Int.reduceBNe, Int.reduceBEq, Int.reduceAdd, Int.reduceSub, Int.reduceMul, Int.reduceNeg, Int.reduceLT, Int.reduceLE, Int.reduceToNat, Nat.reduceLT, Nat.reduceAdd, Nat.reduceSub, Nat.reduceMul, Nat.reduceEqDiff, Nat.reduceLeDiff, Nat.reduceBEq, reduceIte, reduceCtorEq]; exact hW _) ⟨rfl, rfl⟩⟩

theorem formatP_small {l : List UInt8} {args : List AV} {A : List UInt8} {n : Nat} (h : formatP l args = (A, 0, n)) : l.length ≤ 65536 := by
  unfold formatP at h
  split at h
  · simp at h
  · omega
theorem formatJoins_c (f g : List UInt8) (args more : List AV) (ha : ArgsOK args) (hm : ArgsOK more) : Contract Tryd.prog 6 nilSS [.s (bs f), .sl 4 .old args.length (argEl args), .s (bs g), .sl 4 .old more.length (argEl more)] (fun sv post => sv = .b true ∧ post = nilSS) := by
  refine contract_ev Γok Tryd.func6 rfl rfl [] ?_
  have hW : ∀ (args : List AV) (f : Nat → Nat) (i : Nat), i < args.length → ∀ (j : Nat), j < 4 → W false f (argEl args i j) (argEl args i j) := fun args f i _ j _ => W_arg f args i j
  simp (maxSteps := 4000000) only [push_cast, Int.reduceEq, Int.reduceBNe, Int.reduceBEq, Int.reduceAdd, Int.reduceSub, Int.reduceMul, Int.reduceNeg, Int.reduceLT, Int.reduceLE, Int.reduceToNat, Nat.reduceLT, Nat.reduceAdd, Nat.reduceSub, Nat.reduceMul, Nat.reduceEqDiff, Nat.reduceLeDiff, Nat.reduceBEq, reduceIte, reduceCtorEq, Tryd.f6]
  refine call_w alive17_c [] (by simp (maxSteps := 4000000) only [push_cast, Int.reduceEq, Int.reduceBNe, Int.reduceBEq, Int.reduceAdd, Int.reduceSub, Int.reduceMul, Int.reduceNeg, Int.reduceLT, Int.reduceLE, Int.reduceToNat, Nat.reduceLT, Nat.reduceAdd, Nat.reduceSub, Nat.reduceMul, Nat.reduceEqDiff, Nat.reduceLeDiff, Nat.reduceBEq, reduceIte, reduceCtorEq]) ?_
  rintro sv post ⟨rfl, rfl⟩
  simp (maxSteps := 4000000) only [push_cast, Int.reduceEq, Int.reduceBNe, Int.reduceBEq, Int.reduceAdd, Int.reduceSub, Int.reduceMul, Int.reduceNeg, Int.reduceLT, Int.reduceLE, Int.reduceToNat, Nat.reduceLT, Nat.reduceAdd, Nat.reduceSub, Nat.reduceMul, Nat.reduceEqDiff, Nat.reduceLeDiff, Nat.reduceBEq, reduceIte, reduceCtorEq]
  refine call_w (format1_c f args ha) [] (by simp (maxSteps := 4000000) only [push_cast, Int.reduceEq, Int.reduceBNe, Int.reduceBEq, Int.reduceAdd, Int.reduceSub, Int.reduceMul, Int.reduceNeg, Int.reduceLT, Int.reduceLE, Int.reduceToNat, Nat.reduceLT, Nat.reduceAdd, Nat.reduceSub, Nat.reduceMul, Nat.reduceEqDiff, Nat.reduceLeDiff, Nat.reduceBEq, reduceIte, reduceCtorEq]; exact hW _ _) ?_
  rintro sv post ⟨rfl, rfl⟩
  simp (maxSteps := 4000000) only [push_cast, Int.reduceEq, Int.reduceBNe, Int.reduceBEq, Int.reduceAdd, Int.reduceSub, Int.reduceMul, Int.reduceNeg, Int.reduceLT, Int.reduceLE, Int.reduceToNat, Nat.reduceLT, Nat.reduceAdd, Nat.reduceSub, Nat.reduceMul, Nat.reduceEqDiff, Nat.reduceLeDiff, Nat.reduceBEq, reduceIte, reduceCtorEq]
  refine call_w (format1_c g more hm) [] (by simp (maxSteps := 4000000) only [push_cast, Int.reduceEq, Int.reduceBNe, Int.reduceBEq, Int.reduceAdd, Int.reduceSub, Int.reduceMul, Int.reduceNeg, Int.reduceLT, Int.reduceLE, Int.reduceToNat, Nat.reduceLT, Nat.reduceAdd, Nat.reduceSub, Nat.reduceMul, Nat.reduceEqDiff, Nat.reduceLeDiff, Nat.reduceBEq, reduceIte, reduceCtorEq]; exact hW _ _) ?_
  rintro sv post ⟨rfl, rfl⟩
  simp (maxSteps := 4000000) only [push_cast, Int.reduceEq, Int.reduceBNe, Int.reduceBEq, Int.reduceAdd, Int.reduceSub, Int.reduceMul, Int.reduceNeg, Int.reduceLT, Int.reduceLE, Int.reduceToNat, Nat.reduceLT, Nat.reduceAdd, Nat.reduceSub, Nat.reduceMul, Nat.reduceEqDiff, Nat.reduceLeDiff, Nat.reduceBEq, reduceIte, reduceCtorEq]
  have hLf := formatP_len f args
  have hLg := formatP_len g more
  generalize hF : formatP f args = F at hLf ⊢
  generalize hG : formatP g more = G at hLg ⊢
  obtain ⟨A, e1, n⟩ := F
  obtain ⟨B, e2, m⟩ := G
  simp only at hLf hLg
  by_cases h1 : ¬ e1 = 0
  · have hb : (e1 != 0) = true := by simpa using h1
    refine call_w (num17_c e1) [] (by simp (maxSteps := 4000000) only [push_cast, Int.reduceEq, Int.reduceBNe, Int.reduceBEq, Int.reduceAdd, Int.reduceSub, Int.reduceMul, Int.reduceNeg, Int.reduceLT, Int.reduceLE, Int.reduceToNat, Nat.reduceLT, Nat.reduceAdd, Nat.reduceSub, Nat.reduceMul, Nat.reduceEqDiff, Nat.reduceLeDiff, Nat.reduceBEq, reduceIte, reduceCtorEq]) ?_
    rintro sv post ⟨rfl, rfl⟩
    simp (maxSteps := 4000000) only [push_cast, Int.reduceEq, Int.reduceBNe, Int.reduceBEq, Int.reduceAdd, Int.reduceSub, Int.reduceMul, Int.reduceNeg, Int.reduceLT, Int.reduceLE, Int.reduceToNat, Nat.reduceLT, Nat.reduceAdd, Nat.reduceSub, Nat.reduceMul, Nat.reduceEqDiff, Nat.reduceLeDiff, Nat.reduceBEq, reduceIte, reduceCtorEq, hb]
    exact Fin.w [] (.b true) _ (by simp (maxSteps := 4000000) only [push_cast, Int.reduceEq, Int.reduceBNe, Int.reduceBEq, Int.reduceAdd, Int.reduceSub, Int.reduceMul, Int.reduceNeg, Int.reduceLT, Int.reduceLE, Int.reduceToNat, Nat.reduceLT, Nat.reduceAdd, Nat.reduceSub, Nat.reduceMul, Nat.reduceEqDiff, Nat.reduceLeDiff, Nat.reduceBEq, reduceIte, reduceCtorEq]) ⟨rfl, rfl⟩
  obtain rfl := Decidable.not_not.1 h1
  refine call_w (num17_c 0) [] (by simp (maxSteps := 4000000) only [push_cast, Int.reduceEq, Int.reduceBNe, Int.reduceBEq, Int.reduceAdd, Int.reduceSub, Int.reduceMul, Int.reduceNeg, Int.reduceLT, Int.reduceLE, Int.reduceToNat, Nat.reduceLT, Nat.reduceAdd, Nat.reduceSub, Nat.reduceMul, Nat.reduceEqDiff, Nat.reduceLeDiff, Nat.reduceBEq, reduceIte, reduceCtorEq]) ?_
  rintro sv post ⟨rfl, rfl⟩
  simp (maxSteps := 4000000) only [push_cast, Int.reduceEq, Int.reduceBNe, Int.reduceBEq, Int.reduceAdd, Int.reduceSub, Int.reduceMul, Int.reduceNeg, Int.reduceLT, Int.reduceLE, Int.reduceToNat, Nat.reduceLT, Nat.reduceAdd, Nat.reduceSub, Nat.reduceMul, Nat.reduceEqDiff, Nat.reduceLeDiff, Nat.reduceBEq, reduceIte, reduceCtorEq]
  by_cases h2 : ¬ e2 = 0
  · have hb : (e2 != 0) = true := by simpa using h2
    refine call_w (num17_c e2) [] (by simp (maxSteps := 4000000) only [push_cast, Int.reduceEq, Int.reduceBNe, Int.reduceBEq, Int.reduceAdd, Int.reduceSub, Int.reduceMul, Int.reduceNeg, Int.reduceLT, Int.reduceLE, Int.reduceToNat, Nat.reduceLT, Nat.reduceAdd, Nat.reduceSub, Nat.reduceMul, Nat.reduceEqDiff, Nat.reduceLeDiff, Nat.reduceBEq, reduceIte, reduceCtorEq]) ?_
    rintro sv post ⟨rfl, rfl⟩
    simp (maxSteps := 4000000) only [push_cast, Int.reduceEq, Int.reduceBNe, Int.reduceBEq, Int.reduceAdd, Int.reduceSub, Int.reduceMul, Int.reduceNeg, Int.reduceLT, Int.reduceLE, Int.reduceToNat, Nat.reduceLT, Nat.reduceAdd, Nat.reduceSub, Nat.reduceMul, Nat.reduceEqDiff, Nat.reduceLeDiff, Nat.reduceBEq, reduceIte, reduceCtorEq, hb]
    exact Fin.w [] (.b true) _ (by simp (maxSteps := 4000000) only [push_cast, Int.reduceEq, Int.reduceBNe, Int.reduceBEq, Int.reduceAdd, Int.reduceSub, Int.reduceMul, Int.reduceNeg, Int.reduceLT, Int.reduceLE, Int.reduceToNat, Nat.reduceLT, Nat.reduceAdd, Nat.reduceSub, Nat.reduceMul, Nat.reduceEqDiff, Nat.reduceLeDiff, Nat.reduceBEq, reduceIte, reduceCtorEq]) ⟨rfl, rfl⟩
  obtain rfl := Decidable.not_not.1 h2
  refine call_w (num17_c 0) [] (by simp (maxSteps := 4000000) only [push_cast, Int.reduceEq, Int.reduceBNe, Int.reduceBEq, Int.reduceAdd, Int.reduceSub, Int.reduceMul, Int.reduceNeg, Int.reduceLT, Int.reduceLE, Int.reduceToNat, Nat.reduceLT, Nat.reduceAdd, Nat.reduceSub, Nat.reduceMul, Nat.reduceEqDiff, Nat.reduceLeDiff, Nat.reduceBEq, reduceIte, reduceCtorEq]) ?_
  rintro sv post ⟨rfl, rfl⟩
  simp (maxSteps := 4000000) only [push_cast, Int.reduceEq, Int.reduceBNe, Int.reduceBEq, Int.reduceAdd, Int.reduceSub, Int.reduceMul, Int.reduceNeg, Int.reduceLT, Int.reduceLE, Int.reduceToNat, Nat.reduceLT, Nat.reduceAdd, Nat.reduceSub, Nat.reduceMul, Nat.reduceEqDiff, Nat.reduceLeDiff, Nat.reduceBEq, reduceIte, reduceCtorEq, ofU_len, bs_size]
  have s1 := formatP_small hF
  have s2 := formatP_small hG
  rw [wrap64 (by omega) (by omega), wrap64 (by omega) (by omega)]
  refine ⟨fun h => Fin.w [] (.b true) _ (by simp (maxSteps := 4000000) only [push_cast, Int.reduceEq, Int.reduceBNe, Int.reduceBEq, Int.reduceAdd, Int.reduceSub, Int.reduceMul, Int.reduceNeg, Int.reduceLT, Int.reduceLE, Int.reduceToNat, Nat.reduceLT, Nat.reduceAdd, Nat.reduceSub, Nat.reduceMul, Nat.reduceEqDiff, Nat.reduceLeDiff, Nat.reduceBEq, reduceIte, reduceCtorEq]) ⟨rfl, rfl⟩, fun h => ⟨by omega, ?_⟩⟩
  obtain ⟨hJ, l1, l2⟩ := formatP_joins hF hG (by omega) (by omega)
  refine call_w (copyArgs_c args (by omega)) [] (by simp (maxSteps := 4000000) only [push_cast, Int.reduceEq, Int.reduceBNe, Int.reduceBEq, Int.reduceAdd, Int.reduceSub, Int.reduceMul, Int.reduceNeg, Int.reduceLT, Int.reduceLE, Int.reduceToNat, Nat.reduceLT, Nat.reduceAdd, Nat.reduceSub, Nat.reduceMul, Nat.reduceEqDiff, Nat.reduceLeDiff, Nat.reduceBEq, reduceIte, reduceCtorEq]; exact hW _ _) ?_
  rintro sv post ⟨rfl, rfl⟩
  simp (maxSteps := 4000000) only [push_cast, Int.reduceEq, Int.reduceBNe, Int.reduceBEq, Int.reduceAdd, Int.reduceSub, Int.reduceMul, Int.reduceNeg, Int.reduceLT, Int.reduceLE, Int.reduceToNat, Nat.reduceLT, Nat.reduceAdd, Nat.reduceSub, Nat.reduceMul, Nat.reduceEqDiff, Nat.reduceLeDiff, Nat.reduceBEq, reduceIte, reduceCtorEq, ren_argf]
  refine ⟨by omega, fun i hi j hj => one_arg more i hi j hj, ?_⟩
  refine call_w (format1_c (f ++ g) (args ++ more) (ha.app hm (by rw [List.length_append]; omega))) [] (by simp (maxSteps := 4000000) only [push_cast, Int.reduceEq, Int.reduceBNe, Int.reduceBEq, Int.reduceAdd, Int.reduceSub, Int.reduceMul, Int.reduceNeg, Int.reduceLT, Int.reduceLE, Int.reduceToNat, Nat.reduceLT, Nat.reduceAdd, Nat.reduceSub, Nat.reduceMul, Nat.reduceEqDiff, Nat.reduceLeDiff, Nat.reduceBEq, reduceIte, reduceCtorEq, bs_app, List.length_append]; rw [argEl_appf]; exact fun i _ j _ => W_arg _ (args ++ more) i j) ?_
  rintro sv post ⟨rfl, rfl⟩
  rw [hJ]
  simp (maxSteps := 4000000) only [push_cast, Int.reduceEq, Int.reduceBNe, Int.reduceBEq, Int.reduceAdd, Int.reduceSub, Int.reduceMul, Int.reduceNeg, Int.reduceLT, Int.reduceLE, Int.reduceToNat, Nat.reduceLT, Nat.reduceAdd, Nat.reduceSub, Nat.reduceMul, Nat.reduceEqDiff, Nat.reduceLeDiff, Nat.reduceBEq, reduceIte, reduceCtorEq]
  refine call_w (num17_c 0) [] (by simp (maxSteps := 4000000) only [push_cast, Int.reduceEq, Int.reduceBNe, Int.reduceBEq, Int.reduceAdd, Int.reduceSub, Int.reduceMul, Int.reduceNeg, Int.reduceLT, Int.reduceLE, Int.reduceToNat, Nat.reduceLT, Nat.reduceAdd, Nat.reduceSub, Nat.reduceMul, Nat.reduceEqDiff, Nat.reduceLeDiff, Nat.reduceBEq, reduceIte, reduceCtorEq]) ?_
  rintro sv post ⟨rfl, rfl⟩
  simp (maxSteps := 4000000) only [push_cast, Int.reduceEq, Int.reduceBNe, Int.reduceBEq, Int.reduceAdd, Int.reduceSub, Int.reduceMul, Int.reduceNeg, Int.reduceLT, Int.reduceLE, Int.reduceToNat, Nat.reduceLT, Nat.reduceAdd, Nat.reduceSub, Nat.reduceMul, Nat.reduceEqDiff, Nat.reduceLeDiff, Nat.reduceBEq, reduceIte, reduceCtorEq, bs_str, bs_app, bs_size, ofU_len]
  rw [wrap64 (by omega) (by omega)]
  refine ⟨fun _ => by omega, ?_⟩
  rw [beq_self_eq_true]
  exact Fin.w [] (.b true) _ (by simp (maxSteps := 4000000) only [push_cast, Int.reduceEq, Int.reduceBNe, Int.reduceBEq, Int.reduceAdd, Int.reduceSub, Int.reduceMul, Int.reduceNeg, Int.reduceLT, Int.reduceLE, Int.reduceToNat, Nat.reduceLT, Nat.reduceAdd, Nat.reduceSub, Nat.reduceMul, Nat.reduceEqDiff, Nat.reduceLeDiff, Nat.reduceBEq, reduceIte, reduceCtorEq]) ⟨rfl, rfl⟩
theorem formatJoinsV_c (s : ByteArray) (args : List AV) (r : ByteArray) (more : List AV) (ha : ArgsOK args) (hm : ArgsOK more) : Contract Tryd.prog 6 nilSS [.s s, .sl 4 .old args.length (argEl args), .s r, .sl 4 .old more.length (argEl more)] (fun sv post => sv = .b true ∧ post = nilSS) := by
  rw [← bs_of s, ← bs_of r]
  exact formatJoins_c s.data.toList r.data.toList args more ha hm
end Go.Proofs.YtciokebdmnaobaaDoor
