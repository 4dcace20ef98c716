/- Texts joined, in order: Us, Ut. -/
import Derived.Test.YtciokebdmnaobaaDoorZUpUr
/- FormatWide, the plain law: a number with a width. -/
namespace Go.Proofs.YtciokebdmnaobaaDoor
open Go Go.Eng
set_option maxHeartbeats 4000000
set_option linter.unusedSimpArgs false
set_option linter.unusedVariables false
set_option maxRecDepth 100000

def flgP (m z p : Bool) : List UInt8 := (if m then [45] else []) ++ (if z then [48] else []) ++ (if p then [43] else [])
def digs2 (w : Nat) : List UInt8 := if w < 10 then [UInt8.ofNat (48 + w)] else [UInt8.ofNat (48 + w / 10), UInt8.ofNat (48 + w % 10)]
theorem parse_wide : ∀ m z p : Bool, ∀ w : Fin 61, 0 < w.val → parseP (flgP m z p ++ digs2 w.val ++ [100]) = some ⟨flgP m z p, w.val, -1, 100, (flgP m z p ++ digs2 w.val ++ [100]).length + 1⟩ := by decide +kernel
theorem parse_bare : ∀ p : Bool, parseP (flgP false false p ++ [100]) = some ⟨flgP false false p, 0, -1, 100, (flgP false false p ++ [100]).length + 1⟩ := by decide +kernel

theorem formatP_one {X : List UInt8} {d : Dir} {a : AV} (hp : parseP X = some d) (hs : d.size = X.length + 1) (hv : d.verb = 100) (ha : a.kind = 1) (hl : (textP d a).length ≤ 65536) (hX : X.length ≤ 1000) :
    formatP (37 :: X) [a] = (textP d a, 0, X.length + 1) := by
  have hv2 : ¬ d.verb = 37 := by rw [hv]; decide
  have hf : fitP d a = true := by
    unfold fitP wantsP
    rw [hv, ha]
    rfl
  unfold formatP
  rw [if_neg (by simp; omega), List.length_cons, fmtF_arg hp hv2, if_pos hf, if_neg (by simp; omega), List.nil_append]
  have hd : (37 :: X).drop d.size = [] := List.drop_eq_nil_of_le (by simp; omega)
  rw [hd]
  obtain ⟨k, hk⟩ : ∃ k, X.length + 1 = k + 1 := ⟨_, rfl⟩
  rw [hk, fmtF_nil, if_pos (by rfl), ← hk, hs, Nat.zero_add]

theorem lowF_len2 : ∀ (f n b : Nat), (lowF f n b).length ≤ f
  | 0, _, _ => Nat.le_refl _
  | f + 1, n, b => by
    simp only [lowF, List.length_cons]
    split
    · simp
    · have := lowF_len2 f (n / b) b
      omega
theorem lowF_dig : ∀ (f n : Nat) (c : UInt8), c ∈ lowF f n 10 → 48 ≤ c.toNat ∧ c.toNat ≤ 57
  | 0, _, _, h => by simp [lowF] at h
  | f + 1, n, c, h => by
    simp only [lowF] at h
    rcases List.mem_cons.1 h with h | h
    · subst h
      have : n % 10 < 10 := Nat.mod_lt _ (by omega)
      unfold dchar
      rw [if_pos this]
      generalize n % 10 = m at this
      match m, this with
      | 0, _ => decide
      | 1, _ => decide
      | 2, _ => decide
      | 3, _ => decide
      | 4, _ => decide
      | 5, _ => decide
      | 6, _ => decide
      | 7, _ => decide
      | 8, _ => decide
      | 9, _ => decide
    · split at h
      · simp at h
      · exact lowF_dig f _ c h
/-- The sign, the digits. -/
def sgnW (n : Int) (p : Bool) : List UInt8 := if n < 0 then [45] else if p then [43] else []
def numW (n : Int) : List UInt8 := placesP n.natAbs 10
theorem numW_len (n : Int) : 0 < (numW n).length ∧ (numW n).length ≤ 64 := by
  unfold numW placesP
  rw [List.length_reverse]
  refine ⟨?_, lowF_len2 _ _ _⟩
  simp [lowF]
theorem numW_dig (n : Int) (c : UInt8) (h : c ∈ numW n) : 48 ≤ c.toNat ∧ c.toNat ≤ 57 := by
  unfold numW placesP at h
  exact lowF_dig _ _ c (List.mem_reverse.1 h)
theorem sgnW_len (n : Int) (p : Bool) : (sgnW n p).length ≤ 1 := by
  unfold sgnW
  split
  · decide
  · split <;> decide
theorem has43 : ∀ m z p : Bool, (flgP m z p).contains 43 = p := by decide
theorem has32 : ∀ m z p : Bool, (flgP m z p).contains 32 = false := by decide
theorem has45 : ∀ m z p : Bool, (flgP m z p).contains 45 = m := by decide
theorem has48 : ∀ m z p : Bool, (flgP m z p).contains 48 = z := by decide
theorem sign_w (m z p : Bool) (w size : Nat) (n : Int) : signP ⟨flgP m z p, w, -1, 100, size⟩ ⟨1, n, 0, []⟩ = sgnW n p := by
  unfold signP sgnW
  simp only [if_true, has43, has32]
  rfl
theorem digits_w (fl : List UInt8) (w size : Nat) (n : Int) : digitsP ⟨fl, w, -1, 100, size⟩ ⟨1, n, 0, []⟩ = numW n := by
  have h1 : magP ⟨fl, w, -1, 100, size⟩ ⟨1, n, 0, []⟩ = n.natAbs := rfl
  have h2 : barP ⟨fl, w, -1, 100, size⟩ ⟨1, n, 0, []⟩ = numW n := by
    unfold barP numW
    rw [h1, if_neg (by simp)]
    rfl
  unfold digitsP fillP
  rw [if_neg (show ¬ ((100 : UInt8) = 88) by decide), h2]
  have : ((-1 : Int) - ((numW n).length : Nat)).toNat = 0 := by omega
  simp only [this, List.replicate_zero, List.nil_append]
theorem core_w (m z p : Bool) (w size : Nat) (n : Int) : coreP ⟨flgP m z p, w, -1, 100, size⟩ ⟨1, n, 0, []⟩ = (sgnW n p, numW n) := by
  have : coreP ⟨flgP m z p, w, -1, 100, size⟩ ⟨1, n, 0, []⟩ = (signP ⟨flgP m z p, w, -1, 100, size⟩ ⟨1, n, 0, []⟩, digitsP ⟨flgP m z p, w, -1, 100, size⟩ ⟨1, n, 0, []⟩) := by
    unfold coreP
    rw [if_neg (show ¬ ((100 : UInt8) = 99) by decide), if_neg (show ¬ ((100 : UInt8) = 115) by decide)]
  rw [this, sign_w, digits_w]
def fillW (w : Nat) (n : Int) (p : Bool) : Nat := w - (sgnW n p).length - (numW n).length
def wideP (m z p : Bool) (w : Nat) (n : Int) : List UInt8 :=
  if m then (sgnW n p ++ numW n) ++ List.replicate (fillW w n p) 32
  else if z then sgnW n p ++ (List.replicate (fillW w n p) 48 ++ numW n)
  else List.replicate (fillW w n p) 32 ++ (sgnW n p ++ numW n)
theorem text_w (m z p : Bool) (w size : Nat) (n : Int) : textP ⟨flgP m z p, w, -1, 100, size⟩ ⟨1, n, 0, []⟩ = wideP m z p w n := by
  unfold textP layP wideP fillW
  rw [core_w]
  simp only [has45, has48]
  cases m <;> cases z <;> simp
def bareW (n : Int) (p : Bool) : List UInt8 := sgnW n p ++ numW n
theorem bareW_len (n : Int) (p : Bool) : (bareW n p).length = (sgnW n p).length + (numW n).length := List.length_append
theorem wideP_len (m z p : Bool) (w : Nat) (n : Int) : (wideP m z p w n).length = max w (bareW n p).length := by
  rw [bareW_len]
  unfold wideP fillW
  cases m
  · cases z
    · simp only [Bool.false_eq_true, if_false, List.length_append, List.length_replicate]; omega
    · simp only [Bool.false_eq_true, if_false, if_true, List.length_append, List.length_replicate]; omega
  · simp only [if_true, List.length_append, List.length_replicate]; omega
theorem wide_bare (p : Bool) (n : Int) : wideP false false p 0 n = bareW n p := by
  unfold wideP fillW bareW
  simp
def patW (m z p : Bool) (w : Nat) : List UInt8 := 37 :: (flgP m z p ++ digs2 w ++ [100])
def patB (p : Bool) : List UInt8 := 37 :: (flgP false false p ++ [100])
theorem digs2_len (w : Nat) : (digs2 w).length ≤ 2 := by
  unfold digs2
  split <;> simp
theorem flgP_len : ∀ m z p : Bool, (flgP m z p).length ≤ 3 := by decide
theorem format_w (m z p : Bool) (w : Nat) (n : Int) (h0 : 0 < w) (h1 : w ≤ 60) : formatP (patW m z p w) [⟨1, n, 0, []⟩] = (wideP m z p w n, 0, (patW m z p w).length) := by
  have hp := parse_wide m z p ⟨w, by omega⟩ h0
  simp only at hp
  have a1 := digs2_len w
  have a2 := flgP_len m z p
  have a3 := wideP_len m z p w n
  have a4 := numW_len n
  have a5 := sgnW_len n p
  have a6 := bareW_len n p
  have := formatP_one (a := ⟨1, n, 0, []⟩) hp rfl rfl rfl (by rw [text_w]; omega) (by simp only [List.length_append, List.length_cons, List.length_nil]; omega)
  rw [text_w] at this
  exact this
theorem format_b (p : Bool) (n : Int) : formatP (patB p) [⟨1, n, 0, []⟩] = (bareW n p, 0, (patB p).length) := by
  have hp := parse_bare p
  have a2 := flgP_len false false p
  have a4 := numW_len n
  have a5 := sgnW_len n p
  have a6 := bareW_len n p
  have := formatP_one (a := ⟨1, n, 0, []⟩) hp rfl rfl rfl (by rw [text_w, wide_bare]; omega) (by simp only [List.length_append, List.length_cons, List.length_nil]; omega)
  rw [text_w, wide_bare] at this
  exact this
/-- The first byte is a sign if there is one. -/
theorem bare_head (n : Int) (p : Bool) : ∃ c r, bareW n p = c :: r ∧ (((c.toNat : Int) = 45 ∨ (c.toNat : Int) = 43) ↔ (sgnW n p).length = 1) := by
  have h1 := numW_len n
  unfold bareW sgnW
  split
  · exact ⟨45, numW n, rfl, by decide⟩
  · split
    · exact ⟨43, numW n, rfl, by decide⟩
    · match hn : numW n, h1 with
      | c :: r, _ =>
        have := numW_dig n c (by rw [hn]; exact List.mem_cons_self)
        exact ⟨c, r, rfl, fun h => by omega, fun h => by simp at h⟩
end Go.Proofs.YtciokebdmnaobaaDoor
/- FormatWide: a number with a width is never shorter than it; what is filled in are blanks or zeros. -/
namespace Go.Proofs.YtciokebdmnaobaaDoor
open Go Go.Eng
set_option maxHeartbeats 4000000
set_option linter.unusedSimpArgs false
set_option linter.unusedVariables false
set_option maxRecDepth 100000

theorem u8_small (w : Nat) (h : w < 256) : IntKind.u8.wrap (w : Int) = (w : Int) := by rw [IntKind.wrap_u8]; omega
theorem strOf1 (a : Nat) (h : a < 256) : strOf [(a : Int)] = bs [UInt8.ofNat a] := by
  rw [← bs_str]
  congr 1
  simp [ofU]
  omega
theorem strOf2 (a b : Nat) (h : a < 256) (h2 : b < 256) : strOf [(a : Int), (b : Int)] = bs [UInt8.ofNat a, UInt8.ofNat b] := by
  rw [← bs_str]
  congr 1
  simp [ofU]
  omega
theorem digits17W_c (w : Nat) (h1 : w ≤ 60) : Contract Tryd.prog 17 nilSS [.i .i64 w] (fun sv post => sv = .s (bs (digs2 w)) ∧ post = nilSS) := by
  refine contract_ev Γok Tryd.func17 rfl rfl [] ?_
  simp (maxSteps := 4000000) only [push_cast, Int.reduceEq, Int.reduceBNe, Int.reduceBEq, Int.reduceAdd, Int.reduceSub, Int.reduceMul, Int.reduceNeg, Int.reduceLT, Int.reduceLE, Int.reduceToNat, Nat.reduceLT, Nat.reduceAdd, Nat.reduceSub, Nat.reduceMul, Nat.reduceEqDiff, Nat.reduceLeDiff, Nat.reduceBEq, reduceIte, reduceCtorEq, Tryd.f17]
  have e1 : (48 : Int) + (w : Int) = ((48 + w : Nat) : Int) := by omega
  have e2 : (w : Int).tdiv 10 = ((w / 10 : Nat) : Int) := by rw [Int.tdiv_eq_ediv_of_nonneg (by omega)]; omega
  have e3 : (w : Int).tmod 10 = ((w % 10 : Nat) : Int) := by rw [Int.tmod_eq_emod_of_nonneg (by omega)]; omega
  refine ⟨fun h => ?_, fun h => ?_⟩
  · have e : strOf [IntKind.u8.wrap (IntKind.i64.wrap (48 + (w : Int)))] = bs (digs2 w) := by
      rw [e1, wrap64 (by omega) (by omega), u8_small _ (by omega), strOf1 _ (by omega)]
      unfold digs2
      rw [if_pos (by omega)]
    rw [e]
    exact Fin.w [] (.s (bs (digs2 w))) _ (by simp (maxSteps := 4000000) only [push_cast, Int.reduceEq, Int.reduceBNe, Int.reduceBEq, Int.reduceAdd, Int.reduceSub, Int.reduceMul, Int.reduceNeg, Int.reduceLT, Int.reduceLE, Int.reduceToNat, Nat.reduceLT, Nat.reduceAdd, Nat.reduceSub, Nat.reduceMul, Nat.reduceEqDiff, Nat.reduceLeDiff, Nat.reduceBEq, reduceIte, reduceCtorEq]) ⟨rfl, rfl⟩
  · have e : strOf [IntKind.u8.wrap (IntKind.i64.wrap (48 + IntKind.i64.wrap ((w : Int).tdiv 10))), IntKind.u8.wrap (IntKind.i64.wrap (48 + (w : Int).tmod 10))] = bs (digs2 w) := by
      rw [e2, e3, wrap64 (n := ((w / 10 : Nat) : Int)) (by omega) (by omega), show (48 : Int) + ((w / 10 : Nat) : Int) = ((48 + w / 10 : Nat) : Int) by omega, show (48 : Int) + ((w % 10 : Nat) : Int) = ((48 + w % 10 : Nat) : Int) by omega,
        wrap64 (by omega) (by omega), wrap64 (by omega) (by omega), u8_small _ (by omega), u8_small _ (by omega), strOf2 _ _ (by omega) (by omega)]
      unfold digs2
      rw [if_neg (by omega)]
    rw [e]
    exact Fin.w [] (.s (bs (digs2 w))) _ (by simp (maxSteps := 4000000) only [push_cast, Int.reduceEq, Int.reduceBNe, Int.reduceBEq, Int.reduceAdd, Int.reduceSub, Int.reduceMul, Int.reduceNeg, Int.reduceLT, Int.reduceLE, Int.reduceToNat, Nat.reduceLT, Nat.reduceAdd, Nat.reduceSub, Nat.reduceMul, Nat.reduceEqDiff, Nat.reduceLeDiff, Nat.reduceBEq, reduceIte, reduceCtorEq]) ⟨rfl, rfl⟩
theorem all17_c (l : List Int) (c : Int) : Contract Tryd.prog 19 nilSS [.ints .u8 .old l, .i .u8 c] (fun sv post => sv = .b (l.all (fun x => x == c)) ∧ post = nilSS) := by
  refine contract_len 0 rfl fun hlen => ?_
  refine contract_ev Γok Tryd.func19 rfl rfl [] ?_
  simp (maxSteps := 4000000) only [push_cast, Int.reduceEq, Int.reduceBNe, Int.reduceBEq, Int.reduceAdd, Int.reduceSub, Int.reduceMul, Int.reduceNeg, Int.reduceLT, Int.reduceLE, Int.reduceToNat, Nat.reduceLT, Nat.reduceAdd, Nat.reduceSub, Nat.reduceMul, Nat.reduceEqDiff, Nat.reduceLeDiff, Nat.reduceBEq, reduceIte, reduceCtorEq, Tryd.f19]
  refine loop_ok (ι := {i : Nat // i ≤ l.length ∧ (l.take i).all (fun x => x == c) = true}) (fun i => ⟨[.ints .u8 .old l, .i .u8 c, .any, .any, .any, .i .i64 i.1] ++ List.replicate 12 .any, [], [], [], 0, 0, []⟩) (fun i => l.length - i.1) ⟨0, by simp, by simp⟩ ?_ ?_
  · refine Sub.w [] ?_
    simp (maxSteps := 4000000) only [push_cast, Int.reduceEq, Int.reduceBNe, Int.reduceBEq, Int.reduceAdd, Int.reduceSub, Int.reduceMul, Int.reduceNeg, Int.reduceLT, Int.reduceLE, Int.reduceToNat, Nat.reduceLT, Nat.reduceAdd, Nat.reduceSub, Nat.reduceMul, Nat.reduceEqDiff, Nat.reduceLeDiff, Nat.reduceBEq, reduceIte, reduceCtorEq]
  · rintro ⟨i, hi, hp⟩
    refine evCode_sound Γok _ _ _ ?_
    simp (maxSteps := 4000000) only [push_cast, Int.reduceEq, Int.reduceBNe, Int.reduceBEq, Int.reduceAdd, Int.reduceSub, Int.reduceMul, Int.reduceNeg, Int.reduceLT, Int.reduceLE, Int.reduceToNat, Nat.reduceLT, Nat.reduceAdd, Nat.reduceSub, Nat.reduceMul, Nat.reduceEqDiff, Nat.reduceLeDiff, Nat.reduceBEq, reduceIte, reduceCtorEq]
    refine ⟨fun h2 => ?_, fun h2 => ?_⟩
    · have hi2 : i < l.length := by omega
      have e1 : l.getD (i : Int).toNat 0 = l[i] := by simp [List.getD, hi2]
      rw [e1]
      refine ⟨⟨by omega, by omega⟩, fun h3 => ?_, fun h3 => ⟨⟨i + 1, hi2, ?_⟩, ?_, Sub.w [] ?_⟩⟩
      · refine Fin.nil rfl (psv := .b false) rfl ⟨?_, rfl⟩
        congr 1
        refine (List.all_eq_false.2 ⟨l[i], List.getElem_mem hi2, ?_⟩).symm
        simpa using h3
      · rw [List.take_succ_eq_append_getElem hi2, List.all_append, hp]
        simp [h3]
      · show l.length - (i + 1) < l.length - i; omega
      · simp (maxSteps := 4000000) only [push_cast, Int.reduceEq, Int.reduceBNe, Int.reduceBEq, Int.reduceAdd, Int.reduceSub, Int.reduceMul, Int.reduceNeg, Int.reduceLT, Int.reduceLE, Int.reduceToNat, Nat.reduceLT, Nat.reduceAdd, Nat.reduceSub, Nat.reduceMul, Nat.reduceEqDiff, Nat.reduceLeDiff, Nat.reduceBEq, reduceIte, reduceCtorEq]
        rw [wrap64 (by omega) (by omega)]
    · obtain rfl : i = l.length := by omega
      rw [List.take_length] at hp
      exact Fin.nil rfl (psv := .b true) rfl ⟨by rw [hp], rfl⟩

theorem ofU_take (k : Nat) (l : List UInt8) : (ofU l).take k = ofU (l.take k) := by unfold ofU; rw [List.map_take]
theorem ofU_drop (k : Nat) (l : List UInt8) : (ofU l).drop k = ofU (l.drop k) := by unfold ofU; rw [List.map_drop]
theorem all_rep (k : Nat) (c : UInt8) : (ofU (List.replicate k c)).all (fun x => x == (c.toNat : Int)) = true := by
  unfold ofU
  rw [List.map_replicate, List.all_eq_true]
  intro x hx
  rw [List.eq_of_mem_replicate hx]
  exact beq_self_eq_true _
theorem self_tl (x : ByteArray) : (x.toList == x.toList) = true := beq_self_eq_true _
theorem take_front (a b : List UInt8) : (a ++ b).take a.length = a := by simp
theorem drop_front (a b : List UInt8) : (a ++ b).drop a.length = b := by simp
theorem zero_parts (n : Int) (p : Bool) (w k : Nat) (hk : (sgnW n p).length = k) : (ofU (wideP false true p w n)).take k = ofU (sgnW n p) ∧ (ofU (bareW n p)).take k = ofU (sgnW n p) ∧ ((ofU (wideP false true p w n)).take (k + fillW w n p)).drop k = ofU (List.replicate (fillW w n p) 48) ∧ (ofU (wideP false true p w n)).drop (k + fillW w n p) = ofU (numW n) ∧ (ofU (bareW n p)).drop k = ofU (numW n) := by
  subst hk
  have e : wideP false true p w n = sgnW n p ++ (List.replicate (fillW w n p) 48 ++ numW n) := rfl
  rw [e]
  generalize fillW w n p = F
  unfold bareW
  simp only [ofU_take, ofU_drop, take_front, drop_front, true_and]
  have h1 : List.drop (sgnW n p).length (List.take ((sgnW n p).length + F) (sgnW n p ++ (List.replicate F 48 ++ numW n))) = List.replicate F 48 := by
    rw [List.drop_take, drop_front, Nat.add_sub_cancel_left]
    conv => lhs; arg 1; rw [← List.length_replicate (n := F) (a := (48 : UInt8))]
    exact take_front _ _
  have h2 : List.drop ((sgnW n p).length + F) (sgnW n p ++ (List.replicate F 48 ++ numW n)) = numW n := by
    rw [← List.drop_drop, drop_front]
    conv => lhs; arg 1; rw [← List.length_replicate (n := F) (a := (48 : UInt8))]
    exact drop_front _ _
  exact ⟨by rw [h1], by rw [h2], trivial⟩
theorem formatWide_c (n wd : Int) (m z p : Bool) (hn0 : -9223372036854775808 ≤ n) (hn1 : n ≤ 9223372036854775807) : Contract Tryd.prog 5 nilSS [.i .i64 n, .i .i64 wd, .b m, .b z, .b p] (fun sv post => sv = .b true ∧ post = nilSS) := by
  refine contract_of Γok Tryd.func5 rfl rfl (stop := []) ?_
  simp only [Tryd.f5]
  refine CodeOK.seq (evCode_sound Γok _ _ _ ?_)
  simp (maxSteps := 4000000) only [push_cast, Int.reduceEq, Int.reduceBNe, Int.reduceBEq, Int.reduceAdd, Int.reduceSub, Int.reduceMul, Int.reduceNeg, Int.reduceLT, Int.reduceLE, Int.reduceToNat, Nat.reduceLT, Nat.reduceAdd, Nat.reduceSub, Nat.reduceMul, Nat.reduceEqDiff, Nat.reduceLeDiff, Nat.reduceBEq, reduceIte, reduceCtorEq]
  refine CodeOK.seq (evCode_sound Γok _ _ _ ?_)
  simp (maxSteps := 4000000) only [push_cast, Int.reduceEq, Int.reduceBNe, Int.reduceBEq, Int.reduceAdd, Int.reduceSub, Int.reduceMul, Int.reduceNeg, Int.reduceLT, Int.reduceLE, Int.reduceToNat, Nat.reduceLT, Nat.reduceAdd, Nat.reduceSub, Nat.reduceMul, Nat.reduceEqDiff, Nat.reduceLeDiff, Nat.reduceBEq, reduceIte, reduceCtorEq]
  refine call_w alive17_c [] (by simp (maxSteps := 4000000) only [push_cast, Int.reduceEq, Int.reduceBNe, Int.reduceBEq, Int.reduceAdd, Int.reduceSub, Int.reduceMul, Int.reduceNeg, Int.reduceLT, Int.reduceLE, Int.reduceToNat, Nat.reduceLT, Nat.reduceAdd, Nat.reduceSub, Nat.reduceMul, Nat.reduceEqDiff, Nat.reduceLeDiff, Nat.reduceBEq, reduceIte, reduceCtorEq]) ?_
  rintro sv post ⟨rfl, rfl⟩
  simp (maxSteps := 4000000) only [push_cast, Int.reduceEq, Int.reduceBNe, Int.reduceBEq, Int.reduceAdd, Int.reduceSub, Int.reduceMul, Int.reduceNeg, Int.reduceLT, Int.reduceLE, Int.reduceToNat, Nat.reduceLT, Nat.reduceAdd, Nat.reduceSub, Nat.reduceMul, Nat.reduceEqDiff, Nat.reduceLeDiff, Nat.reduceBEq, reduceIte, reduceCtorEq]
  refine CodeOK.seq (evCode_sound Γok _ _ _ ?_)
  simp (maxSteps := 4000000) only [push_cast, Int.reduceEq, Int.reduceBNe, Int.reduceBEq, Int.reduceAdd, Int.reduceSub, Int.reduceMul, Int.reduceNeg, Int.reduceLT, Int.reduceLE, Int.reduceToNat, Nat.reduceLT, Nat.reduceAdd, Nat.reduceSub, Nat.reduceMul, Nat.reduceEqDiff, Nat.reduceLeDiff, Nat.reduceBEq, reduceIte, reduceCtorEq]
  have hw : ∃ w : Nat, IntKind.i64.wrap (1 + (IntKind.i64.wrap (wd.tmod 60 + 60)).tmod 60) = (w : Int) ∧ 0 < w ∧ w ≤ 60 := by
    have h1 := Int.tmod_lt_of_pos wd (show (0 : Int) < 60 by omega)
    have h2 : -60 < wd.tmod 60 := Int.lt_tmod_of_pos wd (show (0 : Int) < 60 by omega)
    generalize wd.tmod 60 = t at h1 h2
    rw [wrap64 (n := t + 60) (by omega) (by omega), Int.tmod_eq_emod_of_nonneg (by omega)]
    have h3 : 0 ≤ (t + 60) % 60 := Int.emod_nonneg _ (by omega)
    have h4 : (t + 60) % 60 < 60 := Int.emod_lt_of_pos _ (by omega)
    rw [wrap64 (by omega) (by omega)]
    exact ⟨(1 + (t + 60) % 60).toNat, by omega, by omega, by omega⟩
  obtain ⟨w, hw, hw0, hw1⟩ := hw
  try rw [hw]
  refine CodeOK.seq (evCode_sound Γok _ _ _ ?_)
  simp (maxSteps := 4000000) only [push_cast, Int.reduceEq, Int.reduceBNe, Int.reduceBEq, Int.reduceAdd, Int.reduceSub, Int.reduceMul, Int.reduceNeg, Int.reduceLT, Int.reduceLE, Int.reduceToNat, Nat.reduceLT, Nat.reduceAdd, Nat.reduceSub, Nat.reduceMul, Nat.reduceEqDiff, Nat.reduceLeDiff, Nat.reduceBEq, reduceIte, reduceCtorEq]
  refine code_cut ⟨[.i .i64 n, .i .i64 w, .b m, .b z, .b p, .any, .any, .any, .any, .any, .any, .s (bs (37 :: flgP m false false))] ++ List.replicate 140 .any, [], [], [], 0, 0, []⟩ (evCode_sound Γok _ _ _ ?_) ?_
  · have f1 : (⟨#[37]⟩ : ByteArray) ++ ⟨#[45]⟩ = bs (37 :: flgP true false false) := rfl
    have f2 : (⟨#[37]⟩ : ByteArray) = bs (37 :: flgP false false false) := rfl
    cases m
    · simp (maxSteps := 4000000) only [push_cast, Int.reduceEq, Int.reduceBNe, Int.reduceBEq, Int.reduceAdd, Int.reduceSub, Int.reduceMul, Int.reduceNeg, Int.reduceLT, Int.reduceLE, Int.reduceToNat, Nat.reduceLT, Nat.reduceAdd, Nat.reduceSub, Nat.reduceMul, Nat.reduceEqDiff, Nat.reduceLeDiff, Nat.reduceBEq, reduceIte, reduceCtorEq]
      refine Sub.w [] ?_
      simp (maxSteps := 4000000) only [push_cast, Int.reduceEq, Int.reduceBNe, Int.reduceBEq, Int.reduceAdd, Int.reduceSub, Int.reduceMul, Int.reduceNeg, Int.reduceLT, Int.reduceLE, Int.reduceToNat, Nat.reduceLT, Nat.reduceAdd, Nat.reduceSub, Nat.reduceMul, Nat.reduceEqDiff, Nat.reduceLeDiff, Nat.reduceBEq, reduceIte, reduceCtorEq]
      exact f2.symm
    · simp (maxSteps := 4000000) only [push_cast, Int.reduceEq, Int.reduceBNe, Int.reduceBEq, Int.reduceAdd, Int.reduceSub, Int.reduceMul, Int.reduceNeg, Int.reduceLT, Int.reduceLE, Int.reduceToNat, Nat.reduceLT, Nat.reduceAdd, Nat.reduceSub, Nat.reduceMul, Nat.reduceEqDiff, Nat.reduceLeDiff, Nat.reduceBEq, reduceIte, reduceCtorEq]
      refine ⟨by decide, Sub.w [] ?_⟩
      simp (maxSteps := 4000000) only [push_cast, Int.reduceEq, Int.reduceBNe, Int.reduceBEq, Int.reduceAdd, Int.reduceSub, Int.reduceMul, Int.reduceNeg, Int.reduceLT, Int.reduceLE, Int.reduceToNat, Nat.reduceLT, Nat.reduceAdd, Nat.reduceSub, Nat.reduceMul, Nat.reduceEqDiff, Nat.reduceLeDiff, Nat.reduceBEq, reduceIte, reduceCtorEq]
      exact f1.symm
  refine code_cut ⟨[.i .i64 n, .i .i64 w, .b m, .b z, .b p, .any, .any, .any, .any, .any, .any, .s (bs (37 :: flgP m z false))] ++ List.replicate 140 .any, [], [], [], 0, 0, []⟩ (evCode_sound Γok _ _ _ ?_) (CodeOK.seq (evCode_sound Γok _ _ _ ?_))
  · have f1 : bs (37 :: flgP m false false) ++ ⟨#[48]⟩ = bs (37 :: flgP m true false) := by cases m <;> rfl
    have f3 := flgP_len m false false
    cases z
    · simp (maxSteps := 4000000) only [push_cast, Int.reduceEq, Int.reduceBNe, Int.reduceBEq, Int.reduceAdd, Int.reduceSub, Int.reduceMul, Int.reduceNeg, Int.reduceLT, Int.reduceLE, Int.reduceToNat, Nat.reduceLT, Nat.reduceAdd, Nat.reduceSub, Nat.reduceMul, Nat.reduceEqDiff, Nat.reduceLeDiff, Nat.reduceBEq, reduceIte, reduceCtorEq, bs_size]
      refine Sub.w [] ?_
      simp (maxSteps := 4000000) only [push_cast, Int.reduceEq, Int.reduceBNe, Int.reduceBEq, Int.reduceAdd, Int.reduceSub, Int.reduceMul, Int.reduceNeg, Int.reduceLT, Int.reduceLE, Int.reduceToNat, Nat.reduceLT, Nat.reduceAdd, Nat.reduceSub, Nat.reduceMul, Nat.reduceEqDiff, Nat.reduceLeDiff, Nat.reduceBEq, reduceIte, reduceCtorEq]
    · simp (maxSteps := 4000000) only [push_cast, Int.reduceEq, Int.reduceBNe, Int.reduceBEq, Int.reduceAdd, Int.reduceSub, Int.reduceMul, Int.reduceNeg, Int.reduceLT, Int.reduceLE, Int.reduceToNat, Nat.reduceLT, Nat.reduceAdd, Nat.reduceSub, Nat.reduceMul, Nat.reduceEqDiff, Nat.reduceLeDiff, Nat.reduceBEq, reduceIte, reduceCtorEq, bs_size]
      rw [f1]
      refine ⟨by rw [show (⟨#[48]⟩ : ByteArray).size = 1 from rfl]; omega, Sub.w [] ?_⟩
      simp (maxSteps := 4000000) only [push_cast, Int.reduceEq, Int.reduceBNe, Int.reduceBEq, Int.reduceAdd, Int.reduceSub, Int.reduceMul, Int.reduceNeg, Int.reduceLT, Int.reduceLE, Int.reduceToNat, Nat.reduceLT, Nat.reduceAdd, Nat.reduceSub, Nat.reduceMul, Nat.reduceEqDiff, Nat.reduceLeDiff, Nat.reduceBEq, reduceIte, reduceCtorEq]
  simp (maxSteps := 4000000) only [push_cast, Int.reduceEq, Int.reduceBNe, Int.reduceBEq, Int.reduceAdd, Int.reduceSub, Int.reduceMul, Int.reduceNeg, Int.reduceLT, Int.reduceLE, Int.reduceToNat, Nat.reduceLT, Nat.reduceAdd, Nat.reduceSub, Nat.reduceMul, Nat.reduceEqDiff, Nat.reduceLeDiff, Nat.reduceBEq, reduceIte, reduceCtorEq]
  refine code_cut ⟨[.i .i64 n, .i .i64 w, .b m, .b z, .b p, .any, .any, .any, .any, .any, .any, .s (bs (37 :: flgP m z p)), .s (bs (patB p))] ++ List.replicate 139 .any, [], [], [], 0, 0, []⟩ (evCode_sound Γok _ _ _ ?_) (CodeOK.seq (evCode_sound Γok _ _ _ ?_))
  · have f1 : bs (37 :: flgP m z false) ++ ⟨#[43]⟩ = bs (37 :: flgP m z true) := by cases m <;> cases z <;> rfl
    have f3 := flgP_len m z false
    cases p
    · simp (maxSteps := 4000000) only [push_cast, Int.reduceEq, Int.reduceBNe, Int.reduceBEq, Int.reduceAdd, Int.reduceSub, Int.reduceMul, Int.reduceNeg, Int.reduceLT, Int.reduceLE, Int.reduceToNat, Nat.reduceLT, Nat.reduceAdd, Nat.reduceSub, Nat.reduceMul, Nat.reduceEqDiff, Nat.reduceLeDiff, Nat.reduceBEq, reduceIte, reduceCtorEq, bs_size]
      refine Sub.w [] ?_
      simp (maxSteps := 4000000) only [push_cast, Int.reduceEq, Int.reduceBNe, Int.reduceBEq, Int.reduceAdd, Int.reduceSub, Int.reduceMul, Int.reduceNeg, Int.reduceLT, Int.reduceLE, Int.reduceToNat, Nat.reduceLT, Nat.reduceAdd, Nat.reduceSub, Nat.reduceMul, Nat.reduceEqDiff, Nat.reduceLeDiff, Nat.reduceBEq, reduceIte, reduceCtorEq]
      rfl
    · simp (maxSteps := 4000000) only [push_cast, Int.reduceEq, Int.reduceBNe, Int.reduceBEq, Int.reduceAdd, Int.reduceSub, Int.reduceMul, Int.reduceNeg, Int.reduceLT, Int.reduceLE, Int.reduceToNat, Nat.reduceLT, Nat.reduceAdd, Nat.reduceSub, Nat.reduceMul, Nat.reduceEqDiff, Nat.reduceLeDiff, Nat.reduceBEq, reduceIte, reduceCtorEq, bs_size]
      rw [f1]
      refine ⟨by rw [show (⟨#[43]⟩ : ByteArray).size = 1 from rfl]; omega, Sub.w [] ?_⟩
      simp (maxSteps := 4000000) only [push_cast, Int.reduceEq, Int.reduceBNe, Int.reduceBEq, Int.reduceAdd, Int.reduceSub, Int.reduceMul, Int.reduceNeg, Int.reduceLT, Int.reduceLE, Int.reduceToNat, Nat.reduceLT, Nat.reduceAdd, Nat.reduceSub, Nat.reduceMul, Nat.reduceEqDiff, Nat.reduceLeDiff, Nat.reduceBEq, reduceIte, reduceCtorEq]
      rfl
  simp (maxSteps := 4000000) only [push_cast, Int.reduceEq, Int.reduceBNe, Int.reduceBEq, Int.reduceAdd, Int.reduceSub, Int.reduceMul, Int.reduceNeg, Int.reduceLT, Int.reduceLE, Int.reduceToNat, Nat.reduceLT, Nat.reduceAdd, Nat.reduceSub, Nat.reduceMul, Nat.reduceEqDiff, Nat.reduceLeDiff, Nat.reduceBEq, reduceIte, reduceCtorEq, bs_size]
  have hX : bs (37 :: flgP m z p) ++ bs (digs2 w) ++ ⟨#[100]⟩ = bs (patW m z p w) := by
    rw [show (⟨#[100]⟩ : ByteArray) = bs [100] from rfl, bs_app, bs_app]
    unfold patW
    rw [List.cons_append, List.cons_append]
  have g1 := flgP_len m z p
  have g2 := digs2_len w
  have okA : ArgsOK [⟨1, n, 0, []⟩] := ⟨fun a h => by
    obtain rfl := List.mem_singleton.1 h
    exact ⟨⟨hn0, hn1, by simp, by simp⟩, by simp⟩, by simp⟩
  refine call_w (digits17W_c w hw1) [] (by simp (maxSteps := 4000000) only [push_cast, Int.reduceEq, Int.reduceBNe, Int.reduceBEq, Int.reduceAdd, Int.reduceSub, Int.reduceMul, Int.reduceNeg, Int.reduceLT, Int.reduceLE, Int.reduceToNat, Nat.reduceLT, Nat.reduceAdd, Nat.reduceSub, Nat.reduceMul, Nat.reduceEqDiff, Nat.reduceLeDiff, Nat.reduceBEq, reduceIte, reduceCtorEq]) ?_
  rintro sv post ⟨rfl, rfl⟩
  simp (maxSteps := 4000000) only [push_cast, Int.reduceEq, Int.reduceBNe, Int.reduceBEq, Int.reduceAdd, Int.reduceSub, Int.reduceMul, Int.reduceNeg, Int.reduceLT, Int.reduceLE, Int.reduceToNat, Nat.reduceLT, Nat.reduceAdd, Nat.reduceSub, Nat.reduceMul, Nat.reduceEqDiff, Nat.reduceLeDiff, Nat.reduceBEq, reduceIte, reduceCtorEq, bs_size]
  refine ⟨by omega, by rw [bs_app, bs_size, List.length_append, List.length_cons, show (⟨#[100]⟩ : ByteArray).size = 1 from rfl]; omega, ?_⟩
  rw [hX]
  refine call_w (int_c n) [] (by simp (maxSteps := 4000000) only [push_cast, Int.reduceEq, Int.reduceBNe, Int.reduceBEq, Int.reduceAdd, Int.reduceSub, Int.reduceMul, Int.reduceNeg, Int.reduceLT, Int.reduceLE, Int.reduceToNat, Nat.reduceLT, Nat.reduceAdd, Nat.reduceSub, Nat.reduceMul, Nat.reduceEqDiff, Nat.reduceLeDiff, Nat.reduceBEq, reduceIte, reduceCtorEq]) ?_
  rintro sv post ⟨rfl, rfl⟩
  simp (maxSteps := 4000000) only [push_cast, Int.reduceEq, Int.reduceBNe, Int.reduceBEq, Int.reduceAdd, Int.reduceSub, Int.reduceMul, Int.reduceNeg, Int.reduceLT, Int.reduceLE, Int.reduceToNat, Nat.reduceLT, Nat.reduceAdd, Nat.reduceSub, Nat.reduceMul, Nat.reduceEqDiff, Nat.reduceLeDiff, Nat.reduceBEq, reduceIte, reduceCtorEq, argV, argC]
  refine call_w (format1_c (patW m z p w) [⟨1, n, 0, []⟩] okA) [] (by simp (maxSteps := 4000000) only [push_cast, Int.reduceEq, Int.reduceBNe, Int.reduceBEq, Int.reduceAdd, Int.reduceSub, Int.reduceMul, Int.reduceNeg, Int.reduceLT, Int.reduceLE, Int.reduceToNat, Nat.reduceLT, Nat.reduceAdd, Nat.reduceSub, Nat.reduceMul, Nat.reduceEqDiff, Nat.reduceLeDiff, Nat.reduceBEq, reduceIte, reduceCtorEq]; exact fun i _ j _ => W_arg _ [⟨1, n, 0, []⟩] i j) ?_
  rintro sv post ⟨rfl, rfl⟩
  rw [format_w m z p w n hw0 hw1]
  simp (maxSteps := 4000000) only [push_cast, Int.reduceEq, Int.reduceBNe, Int.reduceBEq, Int.reduceAdd, Int.reduceSub, Int.reduceMul, Int.reduceNeg, Int.reduceLT, Int.reduceLE, Int.reduceToNat, Nat.reduceLT, Nat.reduceAdd, Nat.reduceSub, Nat.reduceMul, Nat.reduceEqDiff, Nat.reduceLeDiff, Nat.reduceBEq, reduceIte, reduceCtorEq]
  refine CodeOK.seq (evCode_sound Γok _ _ _ ?_)
  simp (maxSteps := 4000000) only [push_cast, Int.reduceEq, Int.reduceBNe, Int.reduceBEq, Int.reduceAdd, Int.reduceSub, Int.reduceMul, Int.reduceNeg, Int.reduceLT, Int.reduceLE, Int.reduceToNat, Nat.reduceLT, Nat.reduceAdd, Nat.reduceSub, Nat.reduceMul, Nat.reduceEqDiff, Nat.reduceLeDiff, Nat.reduceBEq, reduceIte, reduceCtorEq]
  refine call_w (int_c n) [] (by simp (maxSteps := 4000000) only [push_cast, Int.reduceEq, Int.reduceBNe, Int.reduceBEq, Int.reduceAdd, Int.reduceSub, Int.reduceMul, Int.reduceNeg, Int.reduceLT, Int.reduceLE, Int.reduceToNat, Nat.reduceLT, Nat.reduceAdd, Nat.reduceSub, Nat.reduceMul, Nat.reduceEqDiff, Nat.reduceLeDiff, Nat.reduceBEq, reduceIte, reduceCtorEq]) ?_
  rintro sv post ⟨rfl, rfl⟩
  simp (maxSteps := 4000000) only [push_cast, Int.reduceEq, Int.reduceBNe, Int.reduceBEq, Int.reduceAdd, Int.reduceSub, Int.reduceMul, Int.reduceNeg, Int.reduceLT, Int.reduceLE, Int.reduceToNat, Nat.reduceLT, Nat.reduceAdd, Nat.reduceSub, Nat.reduceMul, Nat.reduceEqDiff, Nat.reduceLeDiff, Nat.reduceBEq, reduceIte, reduceCtorEq, argV, argC]
  refine call_w (format1_c (patB p) [⟨1, n, 0, []⟩] okA) [] (by simp (maxSteps := 4000000) only [push_cast, Int.reduceEq, Int.reduceBNe, Int.reduceBEq, Int.reduceAdd, Int.reduceSub, Int.reduceMul, Int.reduceNeg, Int.reduceLT, Int.reduceLE, Int.reduceToNat, Nat.reduceLT, Nat.reduceAdd, Nat.reduceSub, Nat.reduceMul, Nat.reduceEqDiff, Nat.reduceLeDiff, Nat.reduceBEq, reduceIte, reduceCtorEq]; exact fun i _ j _ => W_arg _ [⟨1, n, 0, []⟩] i j) ?_
  rintro sv post ⟨rfl, rfl⟩
  rw [format_b p n]
  simp (maxSteps := 4000000) only [push_cast, Int.reduceEq, Int.reduceBNe, Int.reduceBEq, Int.reduceAdd, Int.reduceSub, Int.reduceMul, Int.reduceNeg, Int.reduceLT, Int.reduceLE, Int.reduceToNat, Nat.reduceLT, Nat.reduceAdd, Nat.reduceSub, Nat.reduceMul, Nat.reduceEqDiff, Nat.reduceLeDiff, Nat.reduceBEq, reduceIte, reduceCtorEq]
  refine code_cut ⟨[.any, .any, .b m, .b z, .any, .any, .any, .any, .any, .any, .any, .any, .any, .ints .u8 .old (ofU (wideP m z p w n)), .any, .any, .ints .u8 .old (ofU (bareW n p))] ++ List.replicate 135 .any, [], [], [], 0, 0, []⟩ (evCode_sound Γok _ _ _ ?_) (CodeOK.seq (evCode_sound Γok _ _ _ ?_))
  · simp (maxSteps := 4000000) only [push_cast, Int.reduceEq, Int.reduceBNe, Int.reduceBEq, Int.reduceAdd, Int.reduceSub, Int.reduceMul, Int.reduceNeg, Int.reduceLT, Int.reduceLE, Int.reduceToNat, Nat.reduceLT, Nat.reduceAdd, Nat.reduceSub, Nat.reduceMul, Nat.reduceEqDiff, Nat.reduceLeDiff, Nat.reduceBEq, reduceIte, reduceCtorEq]
    refine call_w (num17_c 0) [] (by simp (maxSteps := 4000000) only [push_cast, Int.reduceEq, Int.reduceBNe, Int.reduceBEq, Int.reduceAdd, Int.reduceSub, Int.reduceMul, Int.reduceNeg, Int.reduceLT, Int.reduceLE, Int.reduceToNat, Nat.reduceLT, Nat.reduceAdd, Nat.reduceSub, Nat.reduceMul, Nat.reduceEqDiff, Nat.reduceLeDiff, Nat.reduceBEq, reduceIte, reduceCtorEq]) ?_
    rintro sv post ⟨rfl, rfl⟩
    simp (maxSteps := 4000000) only [push_cast, Int.reduceEq, Int.reduceBNe, Int.reduceBEq, Int.reduceAdd, Int.reduceSub, Int.reduceMul, Int.reduceNeg, Int.reduceLT, Int.reduceLE, Int.reduceToNat, Nat.reduceLT, Nat.reduceAdd, Nat.reduceSub, Nat.reduceMul, Nat.reduceEqDiff, Nat.reduceLeDiff, Nat.reduceBEq, reduceIte, reduceCtorEq]
    refine call_w (num17_c 0) [] (by simp (maxSteps := 4000000) only [push_cast, Int.reduceEq, Int.reduceBNe, Int.reduceBEq, Int.reduceAdd, Int.reduceSub, Int.reduceMul, Int.reduceNeg, Int.reduceLT, Int.reduceLE, Int.reduceToNat, Nat.reduceLT, Nat.reduceAdd, Nat.reduceSub, Nat.reduceMul, Nat.reduceEqDiff, Nat.reduceLeDiff, Nat.reduceBEq, reduceIte, reduceCtorEq]) ?_
    rintro sv post ⟨rfl, rfl⟩
    simp (maxSteps := 4000000) only [push_cast, Int.reduceEq, Int.reduceBNe, Int.reduceBEq, Int.reduceAdd, Int.reduceSub, Int.reduceMul, Int.reduceNeg, Int.reduceLT, Int.reduceLE, Int.reduceToNat, Nat.reduceLT, Nat.reduceAdd, Nat.reduceSub, Nat.reduceMul, Nat.reduceEqDiff, Nat.reduceLeDiff, Nat.reduceBEq, reduceIte, reduceCtorEq, ofU_len]
    have e : ((wideP m z p w n).length : Int) = maxI (w : Int) ((bareW n p).length : Int) := by
      rw [wideP_len]
      unfold maxI
      split <;> omega
    refine ⟨fun h => absurd e h, fun _ => Sub.w [] ?_⟩
    simp (maxSteps := 4000000) only [push_cast, Int.reduceEq, Int.reduceBNe, Int.reduceBEq, Int.reduceAdd, Int.reduceSub, Int.reduceMul, Int.reduceNeg, Int.reduceLT, Int.reduceLE, Int.reduceToNat, Nat.reduceLT, Nat.reduceAdd, Nat.reduceSub, Nat.reduceMul, Nat.reduceEqDiff, Nat.reduceLeDiff, Nat.reduceBEq, reduceIte, reduceCtorEq]
  simp (maxSteps := 4000000) only [push_cast, Int.reduceEq, Int.reduceBNe, Int.reduceBEq, Int.reduceAdd, Int.reduceSub, Int.reduceMul, Int.reduceNeg, Int.reduceLT, Int.reduceLE, Int.reduceToNat, Nat.reduceLT, Nat.reduceAdd, Nat.reduceSub, Nat.reduceMul, Nat.reduceEqDiff, Nat.reduceLeDiff, Nat.reduceBEq, reduceIte, reduceCtorEq, ofU_len]
  have hf : IntKind.i64.wrap (((wideP m z p w n).length : Int) - ((bareW n p).length : Int)) = (fillW w n p : Int) := by
    have a1 := wideP_len m z p w n
    have a2 := bareW_len n p
    have a3 := numW_len n
    have a4 := sgnW_len n p
    unfold fillW
    rw [wrap64 (by omega) (by omega)]
    omega
  rw [hf]
  have hB := bareW_len n p
  have hA := wideP_len m z p w n
  have hN := numW_len n
  have hS := sgnW_len n p
  have hF : fillW w n p ≤ 60 := by unfold fillW; omega
  obtain ⟨c0, r0, hh, hsg⟩ := bare_head n p
  cases m
  · cases z
    · have t1 : List.take ((fillW w n p : Nat) : Int).toNat (ofU (wideP false false p w n)) = ofU (List.replicate (fillW w n p) 32) := by
        rw [ofU_take, Int.toNat_natCast]
        congr 1
        conv => lhs; arg 1; rw [← List.length_replicate (n := fillW w n p) (a := (32 : UInt8))]
        exact take_front _ _
      have t2 : List.drop ((fillW w n p : Nat) : Int).toNat (ofU (wideP false false p w n)) = ofU (bareW n p) := by
        rw [ofU_drop, Int.toNat_natCast]
        congr 1
        conv => lhs; arg 1; rw [← List.length_replicate (n := fillW w n p) (a := (32 : UInt8))]
        exact drop_front _ _
      refine CodeOK.seq (evCode_sound Γok _ _ _ ?_)
      simp (maxSteps := 4000000) only [push_cast, Int.reduceEq, Int.reduceBNe, Int.reduceBEq, Int.reduceAdd, Int.reduceSub, Int.reduceMul, Int.reduceNeg, Int.reduceLT, Int.reduceLE, Int.reduceToNat, Nat.reduceLT, Nat.reduceAdd, Nat.reduceSub, Nat.reduceMul, Nat.reduceEqDiff, Nat.reduceLeDiff, Nat.reduceBEq, reduceIte, reduceCtorEq, ofU_len]
      refine CodeOK.seq ?_
      refine (region_plan rfl Γok mixed (.pure 0 (.pure 1 (.pure 2 (.eff (.cons 3 [] (.pure 4 (.pure 5 (.pure 6 (.pure 7 (.pure 8 (.pure 9 (.pure 10 (.pure 11 (.pure 12 (.pure 13 .done)))))))))) .nil))))) 152 rfl (by kernel_rfl) ?_)
      simp (maxSteps := 4000000) only [push_cast, Int.reduceEq, Int.reduceBNe, Int.reduceBEq, Int.reduceAdd, Int.reduceSub, Int.reduceMul, Int.reduceNeg, Int.reduceLT, Int.reduceLE, Int.reduceToNat, Nat.reduceLT, Nat.reduceAdd, Nat.reduceSub, Nat.reduceMul, Nat.reduceEqDiff, Nat.reduceLeDiff, Nat.reduceBEq, reduceIte, reduceCtorEq, ofU_len, t1, t2]
      refine ⟨⟨by omega, by unfold fillW; omega⟩, ?_⟩
      refine call_w (all17_c (ofU (List.replicate (fillW w n p) 32)) 32) [] (by simp (maxSteps := 4000000) only [push_cast, Int.reduceEq, Int.reduceBNe, Int.reduceBEq, Int.reduceAdd, Int.reduceSub, Int.reduceMul, Int.reduceNeg, Int.reduceLT, Int.reduceLE, Int.reduceToNat, Nat.reduceLT, Nat.reduceAdd, Nat.reduceSub, Nat.reduceMul, Nat.reduceEqDiff, Nat.reduceLeDiff, Nat.reduceBEq, reduceIte, reduceCtorEq]) ?_
      rintro sv post ⟨rfl, rfl⟩
      rw [show (ofU (List.replicate (fillW w n p) 32)).all (fun x => x == 32) = true from all_rep _ _]
      simp (maxSteps := 4000000) only [push_cast, Int.reduceEq, Int.reduceBNe, Int.reduceBEq, Int.reduceAdd, Int.reduceSub, Int.reduceMul, Int.reduceNeg, Int.reduceLT, Int.reduceLE, Int.reduceToNat, Nat.reduceLT, Nat.reduceAdd, Nat.reduceSub, Nat.reduceMul, Nat.reduceEqDiff, Nat.reduceLeDiff, Nat.reduceBEq, reduceIte, reduceCtorEq, ofU_len, t2, self_tl]
      refine ⟨⟨by omega, by unfold fillW; omega⟩, ?_⟩
      refine evCode_sound Γok _ _ _ ?_
      simp (maxSteps := 4000000) only [push_cast, Int.reduceEq, Int.reduceBNe, Int.reduceBEq, Int.reduceAdd, Int.reduceSub, Int.reduceMul, Int.reduceNeg, Int.reduceLT, Int.reduceLE, Int.reduceToNat, Nat.reduceLT, Nat.reduceAdd, Nat.reduceSub, Nat.reduceMul, Nat.reduceEqDiff, Nat.reduceLeDiff, Nat.reduceBEq, reduceIte, reduceCtorEq]
      exact Fin.w [] (.b true) _ (by simp (maxSteps := 4000000) only [push_cast, Int.reduceEq, Int.reduceBNe, Int.reduceBEq, Int.reduceAdd, Int.reduceSub, Int.reduceMul, Int.reduceNeg, Int.reduceLT, Int.reduceLE, Int.reduceToNat, Nat.reduceLT, Nat.reduceAdd, Nat.reduceSub, Nat.reduceMul, Nat.reduceEqDiff, Nat.reduceLeDiff, Nat.reduceBEq, reduceIte, reduceCtorEq]) ⟨rfl, rfl⟩
    · have e0 : (ofU (bareW n p)).getD 0 0 = (c0.toNat : Int) := by rw [hh]; rfl
      refine CodeOK.seq (evCode_sound Γok _ _ _ ?_)
      simp (maxSteps := 4000000) only [push_cast, Int.reduceEq, Int.reduceBNe, Int.reduceBEq, Int.reduceAdd, Int.reduceSub, Int.reduceMul, Int.reduceNeg, Int.reduceLT, Int.reduceLE, Int.reduceToNat, Nat.reduceLT, Nat.reduceAdd, Nat.reduceSub, Nat.reduceMul, Nat.reduceEqDiff, Nat.reduceLeDiff, Nat.reduceBEq, reduceIte, reduceCtorEq, ofU_len, e0]
      refine ⟨by omega, fun _ => by omega, fun h => ?_, fun h => ?_⟩
      · have hk : (sgnW n p).length = 1 := hsg.1 h
        obtain ⟨u1, u2, u3, u4, u5⟩ := zero_parts n p w 1 hk
        have hw2 : IntKind.i64.wrap (1 + (fillW w n p : Int)) = 1 + (fillW w n p : Int) := wrap64 (by omega) (by omega)
        have hw3 : (1 + (fillW w n p : Int)).toNat = 1 + fillW w n p := by omega
        have hW : (wideP false true p w n).length = 1 + fillW w n p + (numW n).length := by
          have : wideP false true p w n = sgnW n p ++ (List.replicate (fillW w n p) 48 ++ numW n) := rfl
          rw [this, List.length_append, List.length_append, List.length_replicate, hk]; omega
        refine (region_plan rfl Γok mixed (.pure 0 (.pure 1 (.pure 2 (.pure 3 (.pure 4 (.pure 5 (.pure 6 (.pure 7 (.pure 8 (.pure 9 (.pure 10 (.pure 11 (.pure 12 (.pure 13 (.pure 14 (.pure 15 (.eff (.cons 16 [] (.pure 17 (.pure 18 (.pure 19 (.pure 20 (.pure 21 (.pure 22 (.pure 23 (.pure 24 (.pure 25 (.pure 26 (.pure 27 (.pure 28 (.pure 29 (.pure 30 (.pure 31 .done))))))))))))))) .nil)))))))))))))))))) 152 rfl (by kernel_rfl) ?_)
        simp (maxSteps := 4000000) only [push_cast, Int.reduceEq, Int.reduceBNe, Int.reduceBEq, Int.reduceAdd, Int.reduceSub, Int.reduceMul, Int.reduceNeg, Int.reduceLT, Int.reduceLE, Int.reduceToNat, Nat.reduceLT, Nat.reduceAdd, Nat.reduceSub, Nat.reduceMul, Nat.reduceEqDiff, Nat.reduceLeDiff, Nat.reduceBEq, reduceIte, reduceCtorEq, ofU_len, u1, u2, hw2, hw3, u3, u4, u5, self_tl]
        refine ⟨by omega, by omega, ⟨by omega, by omega⟩, ?_⟩
        refine call_w (all17_c (ofU (List.replicate (fillW w n p) 48)) 48) [] (by simp (maxSteps := 4000000) only [push_cast, Int.reduceEq, Int.reduceBNe, Int.reduceBEq, Int.reduceAdd, Int.reduceSub, Int.reduceMul, Int.reduceNeg, Int.reduceLT, Int.reduceLE, Int.reduceToNat, Nat.reduceLT, Nat.reduceAdd, Nat.reduceSub, Nat.reduceMul, Nat.reduceEqDiff, Nat.reduceLeDiff, Nat.reduceBEq, reduceIte, reduceCtorEq]) ?_
        rintro sv post ⟨rfl, rfl⟩
        rw [show (ofU (List.replicate (fillW w n p) 48)).all (fun x => x == 48) = true from all_rep _ _]
        simp (maxSteps := 4000000) only [push_cast, Int.reduceEq, Int.reduceBNe, Int.reduceBEq, Int.reduceAdd, Int.reduceSub, Int.reduceMul, Int.reduceNeg, Int.reduceLT, Int.reduceLE, Int.reduceToNat, Nat.reduceLT, Nat.reduceAdd, Nat.reduceSub, Nat.reduceMul, Nat.reduceEqDiff, Nat.reduceLeDiff, Nat.reduceBEq, reduceIte, reduceCtorEq, ofU_len, u1, u2, hw2, hw3, u3, u4, u5, self_tl]
        refine ⟨⟨by omega, by omega⟩, by omega, ?_⟩
        exact Fin.w [] (.b true) _ (by simp (maxSteps := 4000000) only [push_cast, Int.reduceEq, Int.reduceBNe, Int.reduceBEq, Int.reduceAdd, Int.reduceSub, Int.reduceMul, Int.reduceNeg, Int.reduceLT, Int.reduceLE, Int.reduceToNat, Nat.reduceLT, Nat.reduceAdd, Nat.reduceSub, Nat.reduceMul, Nat.reduceEqDiff, Nat.reduceLeDiff, Nat.reduceBEq, reduceIte, reduceCtorEq]) ⟨rfl, rfl⟩
      · have hk : (sgnW n p).length = 0 := by have := mt hsg.2; omega
        obtain ⟨u1, u2, u3, u4, u5⟩ := zero_parts n p w 0 hk
        rw [Nat.zero_add, List.drop_zero] at u3
        rw [Nat.zero_add] at u4
        rw [List.drop_zero] at u5
        have hw2 : IntKind.i64.wrap (0 + (fillW w n p : Int)) = (fillW w n p : Int) := by rw [Int.zero_add]; exact wrap64 (by omega) (by omega)
        have hw3 : (fillW w n p : Int).toNat = fillW w n p := Int.toNat_natCast _
        have hW : (wideP false true p w n).length = fillW w n p + (numW n).length := by
          have : wideP false true p w n = sgnW n p ++ (List.replicate (fillW w n p) 48 ++ numW n) := rfl
          rw [this, List.length_append, List.length_append, List.length_replicate, hk]; omega
        refine (region_plan rfl Γok mixed (.pure 0 (.pure 1 (.pure 2 (.pure 3 (.pure 4 (.pure 5 (.pure 6 (.pure 7 (.pure 8 (.pure 9 (.pure 10 (.pure 11 (.pure 12 (.pure 13 (.pure 14 (.pure 15 (.eff (.cons 16 [] (.pure 17 (.pure 18 (.pure 19 (.pure 20 (.pure 21 (.pure 22 (.pure 23 (.pure 24 (.pure 25 (.pure 26 (.pure 27 (.pure 28 (.pure 29 (.pure 30 (.pure 31 .done))))))))))))))) .nil)))))))))))))))))) 152 rfl (by kernel_rfl) ?_)
        simp (maxSteps := 4000000) only [push_cast, Int.reduceEq, Int.reduceBNe, Int.reduceBEq, Int.reduceAdd, Int.reduceSub, Int.reduceMul, Int.reduceNeg, Int.reduceLT, Int.reduceLE, Int.reduceToNat, Nat.reduceLT, Nat.reduceAdd, Nat.reduceSub, Nat.reduceMul, Nat.reduceEqDiff, Nat.reduceLeDiff, Nat.reduceBEq, reduceIte, reduceCtorEq, ofU_len, hw2, hw3, u3, u4, u5, self_tl]
        refine ⟨by omega, by omega, ⟨by omega, by omega⟩, ?_⟩
        refine call_w (all17_c (ofU (List.replicate (fillW w n p) 48)) 48) [] (by simp (maxSteps := 4000000) only [push_cast, Int.reduceEq, Int.reduceBNe, Int.reduceBEq, Int.reduceAdd, Int.reduceSub, Int.reduceMul, Int.reduceNeg, Int.reduceLT, Int.reduceLE, Int.reduceToNat, Nat.reduceLT, Nat.reduceAdd, Nat.reduceSub, Nat.reduceMul, Nat.reduceEqDiff, Nat.reduceLeDiff, Nat.reduceBEq, reduceIte, reduceCtorEq]) ?_
        rintro sv post ⟨rfl, rfl⟩
        rw [show (ofU (List.replicate (fillW w n p) 48)).all (fun x => x == 48) = true from all_rep _ _]
        simp (maxSteps := 4000000) only [push_cast, Int.reduceEq, Int.reduceBNe, Int.reduceBEq, Int.reduceAdd, Int.reduceSub, Int.reduceMul, Int.reduceNeg, Int.reduceLT, Int.reduceLE, Int.reduceToNat, Nat.reduceLT, Nat.reduceAdd, Nat.reduceSub, Nat.reduceMul, Nat.reduceEqDiff, Nat.reduceLeDiff, Nat.reduceBEq, reduceIte, reduceCtorEq, ofU_len, hw2, hw3, u3, u4, u5, self_tl]
        refine ⟨⟨by omega, by omega⟩, by omega, ?_⟩
        exact Fin.w [] (.b true) _ (by simp (maxSteps := 4000000) only [push_cast, Int.reduceEq, Int.reduceBNe, Int.reduceBEq, Int.reduceAdd, Int.reduceSub, Int.reduceMul, Int.reduceNeg, Int.reduceLT, Int.reduceLE, Int.reduceToNat, Nat.reduceLT, Nat.reduceAdd, Nat.reduceSub, Nat.reduceMul, Nat.reduceEqDiff, Nat.reduceLeDiff, Nat.reduceBEq, reduceIte, reduceCtorEq]) ⟨rfl, rfl⟩
  · have t1 : List.take (((bareW n p).length : Nat) : Int).toNat (ofU (wideP true z p w n)) = ofU (bareW n p) := by
      rw [ofU_take, Int.toNat_natCast]
      congr 1
      exact take_front _ _
    have t2 : List.drop (((bareW n p).length : Nat) : Int).toNat (ofU (wideP true z p w n)) = ofU (List.replicate (fillW w n p) 32) := by
      rw [ofU_drop, Int.toNat_natCast]
      congr 1
      exact drop_front _ _
    refine CodeOK.seq (evCode_sound Γok _ _ _ ?_)
    simp (maxSteps := 4000000) only [push_cast, Int.reduceEq, Int.reduceBNe, Int.reduceBEq, Int.reduceAdd, Int.reduceSub, Int.reduceMul, Int.reduceNeg, Int.reduceLT, Int.reduceLE, Int.reduceToNat, Nat.reduceLT, Nat.reduceAdd, Nat.reduceSub, Nat.reduceMul, Nat.reduceEqDiff, Nat.reduceLeDiff, Nat.reduceBEq, reduceIte, reduceCtorEq, ofU_len]
    refine (region_plan rfl Γok mixed (.pure 0 (.pure 1 (.pure 2 (.pure 3 (.pure 4 (.pure 5 (.pure 6 (.pure 7 (.pure 8 (.pure 9 (.pure 10 (.pure 11 (.pure 12 (.eff (.cons 13 [] (.pure 14 (.pure 15 .done)) .nil))))))))))))))) 152 rfl (by kernel_rfl) ?_)
    simp (maxSteps := 4000000) only [push_cast, Int.reduceEq, Int.reduceBNe, Int.reduceBEq, Int.reduceAdd, Int.reduceSub, Int.reduceMul, Int.reduceNeg, Int.reduceLT, Int.reduceLE, Int.reduceToNat, Nat.reduceLT, Nat.reduceAdd, Nat.reduceSub, Nat.reduceMul, Nat.reduceEqDiff, Nat.reduceLeDiff, Nat.reduceBEq, reduceIte, reduceCtorEq, ofU_len, t1, t2, self_tl]
    refine ⟨⟨by omega, by omega⟩, ⟨by omega, by omega⟩, ?_⟩
    refine call_w (all17_c (ofU (List.replicate (fillW w n p) 32)) 32) [] (by simp (maxSteps := 4000000) only [push_cast, Int.reduceEq, Int.reduceBNe, Int.reduceBEq, Int.reduceAdd, Int.reduceSub, Int.reduceMul, Int.reduceNeg, Int.reduceLT, Int.reduceLE, Int.reduceToNat, Nat.reduceLT, Nat.reduceAdd, Nat.reduceSub, Nat.reduceMul, Nat.reduceEqDiff, Nat.reduceLeDiff, Nat.reduceBEq, reduceIte, reduceCtorEq]) ?_
    rintro sv post ⟨rfl, rfl⟩
    rw [show (ofU (List.replicate (fillW w n p) 32)).all (fun x => x == 32) = true from all_rep _ _]
    simp (maxSteps := 4000000) only [push_cast, Int.reduceEq, Int.reduceBNe, Int.reduceBEq, Int.reduceAdd, Int.reduceSub, Int.reduceMul, Int.reduceNeg, Int.reduceLT, Int.reduceLE, Int.reduceToNat, Nat.reduceLT, Nat.reduceAdd, Nat.reduceSub, Nat.reduceMul, Nat.reduceEqDiff, Nat.reduceLeDiff, Nat.reduceBEq, reduceIte, reduceCtorEq, self_tl]
    exact Fin.w [] (.b true) _ (by simp (maxSteps := 4000000) only [push_cast, Int.reduceEq, Int.reduceBNe, Int.reduceBEq, Int.reduceAdd, Int.reduceSub, Int.reduceMul, Int.reduceNeg, Int.reduceLT, Int.reduceLE, Int.reduceToNat, Nat.reduceLT, Nat.reduceAdd, Nat.reduceSub, Nat.reduceMul, Nat.reduceEqDiff, Nat.reduceLeDiff, Nat.reduceBEq, reduceIte, reduceCtorEq]) ⟨rfl, rfl⟩
theorem formatWideV_c (n wd : Int) (m z p : Bool) (h : (Lit.int .i64 n).wf = true) : Contract Tryd.prog 5 nilSS [.i .i64 n, .i .i64 wd, .b m, .b z, .b p] (fun sv post => sv = .b true ∧ post = nilSS) := formatWide_c n wd m z p (wf_i64 h).1 (wf_i64 h).2
end Go.Proofs.YtciokebdmnaobaaDoor
