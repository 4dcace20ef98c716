/- Texts joined, in order: Yf, Yg, Yh, Yi, Yj, Yk. -/
import Derived.Test.YtmciepkhpocafaaGreatZGeTab
import Derived.Test.YtmciepkhpocafaaGreatZIxUd
import Derived.Test.YtmciepkhpocafaaGreatZYmYe
import Derived.Laws.Externs
/- Scan: digits to a base. -/
namespace Go.Proofs.YtmciepkhpocafaaGreat
open Go Go.Eng
set_option maxHeartbeats 4000000
set_option linter.unusedSimpArgs false
set_option linter.unusedVariables false
set_option maxRecDepth 100000

/-- A contract of the library's that reads memory that stays. -/
theorem contract_libM {P : Program} {f : FuncId} {fn : Func} {c : Code} (hfn : P.funcs[f]? = some fn) (hb : fn.body = some c) (hnm : (fn.name == "runtime.NumGoroutine") = false) {pargs : List SV} {psv : SV}
    (h : ∀ (E : Env) w vs, (∀ a v, E.μ a = some v → w.cell? a = some v) → DenL E pargs vs → Calls P f vs.toArray w (fun e w' => ∃ v, e = .returned v ∧ (∀ E', E.Le E' → Den E' psv v) ∧ RowKit.Below w.heap.size w w')) :
    Contract P f nilSS pargs (fun sv post => sv = psv ∧ post = nilSS) := by
  intro E w vs h0 hw hv
  refine ⟨run_callFunc' hfn hb hnm _ _, (h E w vs hw.mu hv).mono ?_⟩
  rintro e w' ⟨v, rfl, hd, hB⟩
  refine ⟨v, E, nilSS, psv, rfl, Env.Ext.refl E, ⟨hw.k, hw.kx, hB.os.trans hw.os, hB.tape.trans hw.tape, hB.output.trans hw.output, Nat.le_trans hw.size hB.size, fun b hb hs => ?_, fun a x e => ?_, hw.nxρ, hw.nxθ, ?_⟩, hd E (Env.Le.refl E), rfl, rfl⟩
  · rw [hB.block b (Nat.lt_of_lt_of_le hb hw.size)]; exact hw.old b hb hs
  · have hlt := World.block_lt_of_cell? w a (hw.mu a x e)
    rw [World.cell?_of_block (hB.block _ hlt)]; exact hw.mu a x e
  · obtain ⟨κ, ho⟩ := hw.own
    exact ⟨κ, fun n T ls e => by simp [nilSS, hfind] at e, fun τ hτ => by simp [nilSS] at hτ, fun r R hr => by simp [nilSS] at hr, ho.mu, fun b k e => ⟨Nat.lt_of_lt_of_le (ho.dom b k e).1 hB.size, (ho.dom b k e).2⟩⟩

theorem bytesIndex_c (l : List Int) (hl : l ≠ []) (c : Int) : Contract Tryz.prog 102 nilSS [.ints .u8 .old l, .i .u8 c] (fun sv post => sv = .i .i64 (Go.Lib.indexByte (Go.Lib.bytesOf l) c.toNat.toUInt8) ∧ post = nilSS) := by
  refine contract_libM Tryz.func102 rfl rfl ?_
  intro E w vs hmu hv
  obtain ⟨v1, r1, rfl, h1, hv⟩ := denL_cons hv
  obtain ⟨v2, r2, rfl, h2, hv⟩ := denL_cons hv
  obtain rfl := denL_nil hv
  simp only [Den] at h1 h2
  subst h2
  obtain ⟨a, cap, rfl, _, _, hm, _⟩ := h1
  obtain ⟨b, off, ha, _⟩ := hm 0 (l.head hl) (by cases l with | nil => exact absurd rfl hl | cons x r => rfl)
  subst ha
  refine (Tryz.bytes_IndexByte b off l.length cap l c w rfl (fun i hi => ?_)).mono ?_
  · obtain ⟨b', off', e, hh⟩ := hm i l[i] (List.getElem?_eq_getElem hi)
    simp only [Option.some.injEq, Addr.mk.injEq, and_true] at e
    obtain ⟨rfl, rfl⟩ := e
    rw [hmu _ _ hh]
    simp [List.getD, hi]
  · rintro e w' ⟨rfl, rfl⟩
    exact ⟨_, rfl, fun E' _ => by simp only [Den], RowKit.Below.refl _ _⟩

def worthP (c : UInt8) : Int := if 48 ≤ c.toNat ∧ c.toNat ≤ 57 then (c.toNat : Int) - 48 else if 97 ≤ c.toNat ∧ c.toNat ≤ 102 then (c.toNat : Int) - 87 else if 65 ≤ c.toNat ∧ c.toNat ≤ 70 then (c.toNat : Int) - 55 else -1
def hexI : List Int := [48, 49, 50, 51, 52, 53, 54, 55, 56, 57, 97, 98, 99, 100, 101, 102]
theorem worth_up : ∀ n : Fin 256, 65 ≤ n.val → n.val ≤ 70 → Go.Lib.indexByte (Go.Lib.bytesOf hexI) (orI .u8 (n.val : Int) 32).toNat.toUInt8 = (n.val : Int) - 55 := by decide +kernel
theorem worth_lo : ∀ n : Fin 256, (n.val < 65 ∨ 70 < n.val) → Go.Lib.indexByte (Go.Lib.bytesOf hexI) ((n.val : Int)).toNat.toUInt8 = (if 48 ≤ n.val ∧ n.val ≤ 57 then (n.val : Int) - 48 else if 97 ≤ n.val ∧ n.val ≤ 102 then (n.val : Int) - 87 else -1) := by decide +kernel
theorem worth_c (c : UInt8) : Contract Tryz.prog 95 nilSS [.i .u8 (c.toNat : Int)] (fun sv post => sv = .i .i64 (worthP c) ∧ post = nilSS) := by
  refine contract_ev Γok Tryz.func95 rfl rfl [] ?_
  simp (maxSteps := 4000000) only [push_cast, Int.reduceEq, Int.reduceBNe, Int.reduceBEq, Int.reduceAdd, Int.reduceSub, Int.reduceMul, Int.reduceNeg, Int.reduceLT, Int.reduceLE, Int.reduceToNat, Nat.reduceLT, Nat.reduceAdd, Nat.reduceSub, Nat.reduceMul, Nat.reduceEqDiff, Nat.reduceLeDiff, Nat.reduceBEq, reduceIte, reduceCtorEq, Tryz.f95]
  have hc := u8_lt c
  have h1 := worth_up ⟨c.toNat, hc⟩
  have h2 := worth_lo ⟨c.toNat, hc⟩
  simp only at h1 h2
  refine ⟨fun h => ?_, fun h => ?_⟩
  · refine call_w (bytesIndex_c hexI (by decide) (orI .u8 (c.toNat : Int) 32)) [] (by simp (maxSteps := 4000000) only [push_cast, Int.reduceEq, Int.reduceBNe, Int.reduceBEq, Int.reduceAdd, Int.reduceSub, Int.reduceMul, Int.reduceNeg, Int.reduceLT, Int.reduceLE, Int.reduceToNat, Nat.reduceLT, Nat.reduceAdd, Nat.reduceSub, Nat.reduceMul, Nat.reduceEqDiff, Nat.reduceLeDiff, Nat.reduceBEq, reduceIte, reduceCtorEq, hexI]) ?_
    rintro sv post ⟨rfl, rfl⟩
    rw [h1 (by omega) (by omega)]
    have e : worthP c = (c.toNat : Int) - 55 := by unfold worthP; rw [if_neg (by omega), if_neg (by omega), if_pos (by omega)]
    simp (maxSteps := 4000000) only [push_cast, Int.reduceEq, Int.reduceBNe, Int.reduceBEq, Int.reduceAdd, Int.reduceSub, Int.reduceMul, Int.reduceNeg, Int.reduceLT, Int.reduceLE, Int.reduceToNat, Nat.reduceLT, Nat.reduceAdd, Nat.reduceSub, Nat.reduceMul, Nat.reduceEqDiff, Nat.reduceLeDiff, Nat.reduceBEq, reduceIte, reduceCtorEq]
    exact Fin.w [] (.i .i64 ((c.toNat : Int) - 55)) _ (by simp (maxSteps := 4000000) only [push_cast, Int.reduceEq, Int.reduceBNe, Int.reduceBEq, Int.reduceAdd, Int.reduceSub, Int.reduceMul, Int.reduceNeg, Int.reduceLT, Int.reduceLE, Int.reduceToNat, Nat.reduceLT, Nat.reduceAdd, Nat.reduceSub, Nat.reduceMul, Nat.reduceEqDiff, Nat.reduceLeDiff, Nat.reduceBEq, reduceIte, reduceCtorEq]) ⟨by rw [e], rfl⟩
  · refine call_w (bytesIndex_c hexI (by decide) (c.toNat : Int)) [] (by simp (maxSteps := 4000000) only [push_cast, Int.reduceEq, Int.reduceBNe, Int.reduceBEq, Int.reduceAdd, Int.reduceSub, Int.reduceMul, Int.reduceNeg, Int.reduceLT, Int.reduceLE, Int.reduceToNat, Nat.reduceLT, Nat.reduceAdd, Nat.reduceSub, Nat.reduceMul, Nat.reduceEqDiff, Nat.reduceLeDiff, Nat.reduceBEq, reduceIte, reduceCtorEq, hexI]) ?_
    rintro sv post ⟨rfl, rfl⟩
    rw [h2 (by omega)]
    have e : worthP c = (if 48 ≤ c.toNat ∧ c.toNat ≤ 57 then (c.toNat : Int) - 48 else if 97 ≤ c.toNat ∧ c.toNat ≤ 102 then (c.toNat : Int) - 87 else -1) := by
      unfold worthP
      split
      · rfl
      · split
        · rfl
        · rw [if_neg (by omega)]
    rw [← e]
    simp (maxSteps := 4000000) only [push_cast, Int.reduceEq, Int.reduceBNe, Int.reduceBEq, Int.reduceAdd, Int.reduceSub, Int.reduceMul, Int.reduceNeg, Int.reduceLT, Int.reduceLE, Int.reduceToNat, Nat.reduceLT, Nat.reduceAdd, Nat.reduceSub, Nat.reduceMul, Nat.reduceEqDiff, Nat.reduceLeDiff, Nat.reduceBEq, reduceIte, reduceCtorEq]
    exact Fin.w [] (.i .i64 (worthP c)) _ (by simp (maxSteps := 4000000) only [push_cast, Int.reduceEq, Int.reduceBNe, Int.reduceBEq, Int.reduceAdd, Int.reduceSub, Int.reduceMul, Int.reduceNeg, Int.reduceLT, Int.reduceLE, Int.reduceToNat, Nat.reduceLT, Nat.reduceAdd, Nat.reduceSub, Nat.reduceMul, Nat.reduceEqDiff, Nat.reduceLeDiff, Nat.reduceBEq, reduceIte, reduceCtorEq]) ⟨rfl, rfl⟩

theorem ext_add (x y : Int) (hx : 0 ≤ x) (hy : 0 ≤ y) : ExtPure Tryz.prog 97 [.i .u64 x, .i .u64 y, .i .u64 0] (.tup [.i .u64 ((x + y + 0) % 18446744073709551616), .i .u64 ((x + y + 0) / 18446744073709551616)]) := by
  intro E w vs hv
  obtain ⟨v1, r1, rfl, h1, hv⟩ := denL_cons hv
  obtain ⟨v2, r2, rfl, h2, hv⟩ := denL_cons hv
  obtain ⟨v3, r3, rfl, h3, hv⟩ := denL_cons hv
  obtain rfl := denL_nil hv
  simp only [Den] at h1 h2 h3
  subst h1 h2 h3
  refine ⟨.tuple #[.int .u64 ((x + y + 0) % 18446744073709551616), .int .u64 ((x + y + 0) / 18446744073709551616)], ?_, by simp only [Den]; exact ⟨_, rfl, by simp only [DenL, Den]; exact ⟨trivial, trivial, trivial⟩⟩⟩
  rw [run_callFunc_extern Tryz.func97 (by kernel_rfl) (by kernel_rfl) (by kernel_rfl) (e := add64Entry) (by kernel_rfl)]
  have := run_add64 (P := Tryz.prog) x y 0 hx hy (by omega) (by omega) w
  rw [show ([Value.int IntKind.u64 x, Value.int IntKind.u64 y, Value.int IntKind.u64 0] : List Value).toArray = #[Value.int IntKind.u64 x, Value.int IntKind.u64 y, Value.int IntKind.u64 0] from rfl, this]
  rfl

/-- Digits to a base: the number, the fault, its place. -/
def baseF (base : Nat) : Nat → Nat → List UInt8 → Nat × Int × Nat
  | n, i, [] => (n, 0, i)
  | n, i, c :: r => if worthP c < 0 ∨ (base : Int) ≤ worthP c then (0, 11, i) else if 18446744073709551616 ≤ n * base + (worthP c).toNat then (0, 4, i) else baseF base (n * base + (worthP c).toNat) (i + 1) r
def parseBaseP (base : Nat) (s : List UInt8) : Nat × Int × Nat := if s = [] then (0, 8, 0) else baseF base 0 0 s
theorem parseBase_c (s : List UInt8) (base : Nat) (h2 : 2 ≤ base) (h16 : base ≤ 16) (hs : s.length ≤ 140737488355328) : Contract Tryz.prog 85 nilSS [.s (bs s), .i .i64 base] (fun sv post => sv = .tup [.i .u64 (parseBaseP base s).1, .i .i64 (parseBaseP base s).2.1, .i .i64 (parseBaseP base s).2.2] ∧ post = nilSS) := by
  refine contract_ev Γok Tryz.func85 rfl rfl [] ?_
  simp (maxSteps := 4000000) only [push_cast, Int.reduceEq, Int.reduceBNe, Int.reduceBEq, Int.reduceAdd, Int.reduceSub, Int.reduceMul, Int.reduceNeg, Int.reduceLT, Int.reduceLE, Int.reduceToNat, Nat.reduceLT, Nat.reduceAdd, Nat.reduceSub, Nat.reduceMul, Nat.reduceEqDiff, Nat.reduceLeDiff, Nat.reduceBEq, reduceIte, reduceCtorEq, Tryz.f85, mk_bs, bs_tl, bs_size]
  refine ⟨fun h => by omega, fun _ => ⟨fun hs0 => ?_, fun hs0 => ?_⟩⟩
  · have e : parseBaseP base s = (0, 8, 0) := if_pos hs0
    rw [e]
    exact Fin.w [] (.tup [.i .u64 0, .i .i64 8, .i .i64 0]) _ (by simp (maxSteps := 4000000) only [push_cast, Int.reduceEq, Int.reduceBNe, Int.reduceBEq, Int.reduceAdd, Int.reduceSub, Int.reduceMul, Int.reduceNeg, Int.reduceLT, Int.reduceLE, Int.reduceToNat, Nat.reduceLT, Nat.reduceAdd, Nat.reduceSub, Nat.reduceMul, Nat.reduceEqDiff, Nat.reduceLeDiff, Nat.reduceBEq, reduceIte, reduceCtorEq]) ⟨rfl, rfl⟩
  have e0 : parseBaseP base s = baseF base 0 0 s := if_neg hs0
  rw [e0]
  refine loop_ok (ι := {q : Nat × Nat × List UInt8 // baseF base q.1 q.2.1 q.2.2 = baseF base 0 0 s ∧ s.drop q.2.1 = q.2.2 ∧ q.2.1 + q.2.2.length = s.length ∧ q.1 < 18446744073709551616})
    (fun q => ⟨[.s (bs s), .i .i64 base, .any, .any, .any, .any, .any, .i .u64 q.1.1] ++ List.replicate 15 .any ++ [.i .i64 s.length, .i .i64 q.1.2.1] ++ List.replicate 38 .any, [], [], [], 0, 0, []⟩) (fun q => q.1.2.2.length) ⟨(0, 0, s), rfl, rfl, by simp, by simp⟩ ?_ ?_
  · refine Sub.w [] ?_
    simp (maxSteps := 4000000) only [push_cast, Int.reduceEq, Int.reduceBNe, Int.reduceBEq, Int.reduceAdd, Int.reduceSub, Int.reduceMul, Int.reduceNeg, Int.reduceLT, Int.reduceLE, Int.reduceToNat, Nat.reduceLT, Nat.reduceAdd, Nat.reduceSub, Nat.reduceMul, Nat.reduceEqDiff, Nat.reduceLeDiff, Nat.reduceBEq, reduceIte, reduceCtorEq]
  rintro ⟨⟨n, i, r⟩, k1, k2, k3, k4⟩
  simp only at k1 k2 k3 k4
  refine evCode_sound Γok _ _ _ ?_
  simp (maxSteps := 4000000) only [push_cast, Int.reduceEq, Int.reduceBNe, Int.reduceBEq, Int.reduceAdd, Int.reduceSub, Int.reduceMul, Int.reduceNeg, Int.reduceLT, Int.reduceLE, Int.reduceToNat, Nat.reduceLT, Nat.reduceAdd, Nat.reduceSub, Nat.reduceMul, Nat.reduceEqDiff, Nat.reduceLeDiff, Nat.reduceBEq, reduceIte, reduceCtorEq, bs_size, bs_at, Int.toNat_natCast]
  have hl2 : (i : Int) ≤ s.length := by omega
  refine ⟨fun h => ⟨by omega, ?_⟩, fun h => ?_⟩
  · obtain ⟨c, r, rfl⟩ : ∃ d r', r = d :: r' := by
      cases r with
      | nil => simp only [List.length_nil] at k3; omega
      | cons d r => exact ⟨d, r, rfl⟩
    simp only [List.length_cons] at k3
    have hc : (s[i]?).getD 0 = c := by
      have := congrArg List.head? k2
      rw [List.head?_drop] at this
      rw [this]; rfl
    have hk : s.drop (i + 1) = r := by rw [← List.drop_drop, k2]; rfl
    rw [hc]
    refine call_w (worth_c c) [] (by simp (maxSteps := 4000000) only [push_cast, Int.reduceEq, Int.reduceBNe, Int.reduceBEq, Int.reduceAdd, Int.reduceSub, Int.reduceMul, Int.reduceNeg, Int.reduceLT, Int.reduceLE, Int.reduceToNat, Nat.reduceLT, Nat.reduceAdd, Nat.reduceSub, Nat.reduceMul, Nat.reduceEqDiff, Nat.reduceLeDiff, Nat.reduceBEq, reduceIte, reduceCtorEq]) ?_
    rintro sv post ⟨rfl, rfl⟩
    simp (maxSteps := 4000000) only [push_cast, Int.reduceEq, Int.reduceBNe, Int.reduceBEq, Int.reduceAdd, Int.reduceSub, Int.reduceMul, Int.reduceNeg, Int.reduceLT, Int.reduceLE, Int.reduceToNat, Nat.reduceLT, Nat.reduceAdd, Nat.reduceSub, Nat.reduceMul, Nat.reduceEqDiff, Nat.reduceLeDiff, Nat.reduceBEq, reduceIte, reduceCtorEq]
    simp only [baseF] at k1
    refine ⟨fun h5 => ?_, fun h5 => ?_⟩
    · rw [if_pos h5] at k1
      rw [← k1]
      exact Fin.w [] (.tup [.i .u64 0, .i .i64 11, .i .i64 i]) _ (by simp (maxSteps := 4000000) only [push_cast, Int.reduceEq, Int.reduceBNe, Int.reduceBEq, Int.reduceAdd, Int.reduceSub, Int.reduceMul, Int.reduceNeg, Int.reduceLT, Int.reduceLE, Int.reduceToNat, Nat.reduceLT, Nat.reduceAdd, Nat.reduceSub, Nat.reduceMul, Nat.reduceEqDiff, Nat.reduceLeDiff, Nat.reduceBEq, reduceIte, reduceCtorEq]) ⟨rfl, rfl⟩
    rw [if_neg (by omega)] at k1
    refine call_w (mul64_c (n : Int) (IntKind.u64.wrap (base : Int)) n base rfl (wrapu base (by omega)) k4 (by omega)) [] (by simp (maxSteps := 4000000) only [push_cast, Int.reduceEq, Int.reduceBNe, Int.reduceBEq, Int.reduceAdd, Int.reduceSub, Int.reduceMul, Int.reduceNeg, Int.reduceLT, Int.reduceLE, Int.reduceToNat, Nat.reduceLT, Nat.reduceAdd, Nat.reduceSub, Nat.reduceMul, Nat.reduceEqDiff, Nat.reduceLeDiff, Nat.reduceBEq, reduceIte, reduceCtorEq]) ?_
    rintro sv post ⟨rfl, rfl⟩
    simp (maxSteps := 4000000) only [push_cast, Int.reduceEq, Int.reduceBNe, Int.reduceBEq, Int.reduceAdd, Int.reduceSub, Int.reduceMul, Int.reduceNeg, Int.reduceLT, Int.reduceLE, Int.reduceToNat, Nat.reduceLT, Nat.reduceAdd, Nat.reduceSub, Nat.reduceMul, Nat.reduceEqDiff, Nat.reduceLeDiff, Nat.reduceBEq, reduceIte, reduceCtorEq]
    have hd : IntKind.u64.wrap (worthP c) = worthP c := by rw [IntKind.wrap_u64]; omega
    rw [hd]
    refine .inr ⟨_, ext_add (lo64 n base) (worthP c) (by unfold lo64; omega) (by omega), ?_⟩
    simp (maxSteps := 4000000) only [push_cast, Int.reduceEq, Int.reduceBNe, Int.reduceBEq, Int.reduceAdd, Int.reduceSub, Int.reduceMul, Int.reduceNeg, Int.reduceLT, Int.reduceLE, Int.reduceToNat, Nat.reduceLT, Nat.reduceAdd, Nat.reduceSub, Nat.reduceMul, Nat.reduceEqDiff, Nat.reduceLeDiff, Nat.reduceBEq, reduceIte, reduceCtorEq]
    obtain ⟨dn, hdn⟩ : ∃ dn : Nat, worthP c = dn := ⟨(worthP c).toNat, by omega⟩
    have hM : n * base ≤ 18446744073709551615 * 16 := Nat.mul_le_mul (by omega) h16
    rw [hdn] at h5 k1 ⊢
    rw [Int.toNat_natCast] at k1
    have hover : IntKind.u64.wrap (hi64 n base + (lo64 n base + (dn : Int) + 0) / 18446744073709551616) = (((n * base + dn) / 18446744073709551616 : Nat) : Int) := by
      rw [IntKind.wrap_u64]
      unfold hi64 lo64
      generalize n * base = M at hM
      omega
    have hlow : (lo64 n base + (dn : Int) + 0) % 18446744073709551616 = (((n * base + dn) % 18446744073709551616 : Nat) : Int) := by
      unfold lo64
      generalize n * base = M at hM
      omega
    rw [hover, hlow]
    generalize n * base = M at *
    refine ⟨fun h6 => ?_, fun h6 => ?_⟩
    · rw [if_pos (by omega)] at k1
      rw [← k1]
      exact Fin.w [] (.tup [.i .u64 0, .i .i64 4, .i .i64 i]) _ (by simp (maxSteps := 4000000) only [push_cast, Int.reduceEq, Int.reduceBNe, Int.reduceBEq, Int.reduceAdd, Int.reduceSub, Int.reduceMul, Int.reduceNeg, Int.reduceLT, Int.reduceLE, Int.reduceToNat, Nat.reduceLT, Nat.reduceAdd, Nat.reduceSub, Nat.reduceMul, Nat.reduceEqDiff, Nat.reduceLeDiff, Nat.reduceBEq, reduceIte, reduceCtorEq]) ⟨rfl, rfl⟩
    · have hlt : M + dn < 18446744073709551616 := by omega
      rw [if_neg (by omega)] at k1
      rw [Nat.mod_eq_of_lt hlt]
      refine ⟨⟨(M + dn, i + 1, r), k1, hk, by simp only; omega, hlt⟩, by simp only; omega, Sub.w [] ?_⟩
      simp (maxSteps := 4000000) only [push_cast, Int.reduceEq, Int.reduceBNe, Int.reduceBEq, Int.reduceAdd, Int.reduceSub, Int.reduceMul, Int.reduceNeg, Int.reduceLT, Int.reduceLE, Int.reduceToNat, Nat.reduceLT, Nat.reduceAdd, Nat.reduceSub, Nat.reduceMul, Nat.reduceEqDiff, Nat.reduceLeDiff, Nat.reduceBEq, reduceIte, reduceCtorEq]
      exact (wrap64 (n := (i : Int) + 1) (by omega) (by omega)).symm
  · obtain rfl : r = [] := List.eq_nil_of_length_eq_zero (by omega)
    rw [← k1]
    simp only [List.length_nil] at k3
    rw [show s.length = i by omega]
    exact Fin.w [] (.tup [.i .u64 n, .i .i64 0, .i .i64 i]) _ (by simp (maxSteps := 4000000) only [push_cast, Int.reduceEq, Int.reduceBNe, Int.reduceBEq, Int.reduceAdd, Int.reduceSub, Int.reduceMul, Int.reduceNeg, Int.reduceLT, Int.reduceLE, Int.reduceToNat, Nat.reduceLT, Nat.reduceAdd, Nat.reduceSub, Nat.reduceMul, Nat.reduceEqDiff, Nat.reduceLeDiff, Nat.reduceBEq, reduceIte, reduceCtorEq]) ⟨rfl, rfl⟩
end Go.Proofs.YtmciepkhpocafaaGreat
/- Scan: what is taken of a source, by a closure. -/
namespace Go.Proofs.YtmciepkhpocafaaGreat
open Go Go.Eng
set_option maxHeartbeats 4000000
set_option linter.unusedSimpArgs false
set_option linter.unusedVariables false
set_option maxRecDepth 100000

def rdNS (base : Int) (b : List UInt8) (at_ : Nat) (e : Int) : SS := ⟨[], [(0, 66, fixL b at_), (1, 72, rdL e), (2, 3, [.i .i64 base])], [], [], 3, 3, []⟩
def isTakeN (base : Int) (fits : UInt8 → Bool) (most : Nat) (b : List UInt8) (at_ : Nat) (e : Int) (sv : SV) (post : SS) : Prop :=
  sv = .s (bs (takeP fits most (b.drop at_)).s) ∧ post = rdNS base b (at_ + (takeP fits most (b.drop at_)).s.length) (if most = 0 then e else endE (takeP fits most (b.drop at_)).ended)
theorem takeN_c (base : Int) (fits : UInt8 → Bool) (g : FuncId) (hg : ∀ c : UInt8, Contract Tryz.prog g ⟨[], [(0, 3, [.i .i64 base])], [], [], 1, 1, []⟩ [.i .u8 (c.toNat : Int), .ptr 0 0] (fun sv post => sv = .b (fits c) ∧ post = ⟨[], [(0, 3, [.i .i64 base])], [], [], 1, 1, []⟩)) (most : Nat) (hm : most ≤ 100000) (b : List UInt8) (at_ : Nat) (e : Int) (hb : b.length ≤ 140737488355328) (hat : at_ ≤ b.length) :
    Contract Tryz.prog 50 (rdNS base b at_ e) [.ptr 1 0, .i .i64 most, .fn (.func g) [] [.ptr 2 0]] (isTakeN base fits most b at_ e) := by
  refine contract_ev Γok Tryz.func50 rfl rfl [] ?_
  simp (maxSteps := 4000000) only [push_cast, Int.reduceEq, Int.reduceBNe, Int.reduceBEq, Int.reduceAdd, Int.reduceSub, Int.reduceMul, Int.reduceNeg, Int.reduceLT, Int.reduceLE, Int.reduceToNat, Nat.reduceLT, Nat.reduceAdd, Nat.reduceSub, Nat.reduceMul, Nat.reduceEqDiff, Nat.reduceLeDiff, Nat.reduceBEq, reduceIte, reduceCtorEq, Tryz.f50, rdNS, rdL, fixL, partC]
  refine loop_ok (ι := {q : List UInt8 × Nat × List UInt8 // (takeP fits most (b.drop at_)).s = q.1 ++ (takeP fits q.2.1 q.2.2).s ∧ (takeP fits most (b.drop at_)).ended = (takeP fits q.2.1 q.2.2).ended ∧ q.1.length + q.2.1 = most ∧ b.drop (at_ + q.1.length) = q.2.2 ∧ at_ + q.1.length ≤ b.length})
    (fun q => ⟨[.ptr 1 0, .i .i64 most, .fn (.func g) [] [.ptr 2 0], .any, .any, .any, .any, .ints .u8 (.tok 3 true) (ofU q.1.1)] ++ List.replicate 36 .any, [(0, 66, fixL b (at_ + q.1.1.length)), (1, 72, rdL (if q.1.1 = [] then e else 0)), (2, 3, [.i .i64 base])], [3], [], 4, 3, []⟩) (fun q => q.1.2.1) ⟨([], most, b.drop at_), by simp, rfl, by simp, by simp, by simpa using hat⟩ ?_ ?_
  · refine Sub.trans (Sub.tokFr 7 rfl) (Sub.w [0, 1, 2, 3] ?_)
    simp (maxSteps := 4000000) only [push_cast, Int.reduceEq, Int.reduceBNe, Int.reduceBEq, Int.reduceAdd, Int.reduceSub, Int.reduceMul, Int.reduceNeg, Int.reduceLT, Int.reduceLE, Int.reduceToNat, Nat.reduceLT, Nat.reduceAdd, Nat.reduceSub, Nat.reduceMul, Nat.reduceEqDiff, Nat.reduceLeDiff, Nat.reduceBEq, reduceIte, reduceCtorEq, fixL, rdL, partC]
    rfl
  rintro ⟨⟨out, k, r⟩, h1, h2, h3, h4, h5⟩
  simp only at h1 h2 h3 h4 h5
  refine evCode_sound Γok _ _ _ ?_
  simp (maxSteps := 4000000) only [push_cast, Int.reduceEq, Int.reduceBNe, Int.reduceBEq, Int.reduceAdd, Int.reduceSub, Int.reduceMul, Int.reduceNeg, Int.reduceLT, Int.reduceLE, Int.reduceToNat, Nat.reduceLT, Nat.reduceAdd, Nat.reduceSub, Nat.reduceMul, Nat.reduceEqDiff, Nat.reduceLeDiff, Nat.reduceBEq, reduceIte, reduceCtorEq, ofU_len, rdL, fixL, partC]
  have fin : ∀ (x : Int), (takeP fits most (b.drop at_)).s = out → x = (if most = 0 then e else endE (takeP fits most (b.drop at_)).ended) → isTakeN base fits most b at_ e (.s (bs out)) (rdNS base b (at_ + out.length) x) := by
    rintro x hs rfl
    unfold isTakeN
    rw [hs]
    exact ⟨rfl, rfl⟩
  refine ⟨fun h => ?_, fun h => ?_⟩
  · obtain ⟨k, rfl⟩ : ∃ k', k = k' + 1 := ⟨k - 1, by omega⟩
    refine inv_of nextM (ent_w (next_c b (at_ + out.length) hb h5) [0] (by simp (maxSteps := 4000000) only [push_cast, Int.reduceEq, Int.reduceBNe, Int.reduceBEq, Int.reduceAdd, Int.reduceSub, Int.reduceMul, Int.reduceNeg, Int.reduceLT, Int.reduceLE, Int.reduceToNat, Nat.reduceLT, Nat.reduceAdd, Nat.reduceSub, Nat.reduceMul, Nat.reduceEqDiff, Nat.reduceLeDiff, Nat.reduceBEq, reduceIte, reduceCtorEq, fixS, fixL]) ?_)
    intro sv post hN
    unfold isNext at hN
    rw [h4] at hN
    cases r with
    | nil =>
      obtain ⟨rfl, rfl⟩ := hN
      simp (maxSteps := 4000000) only [push_cast, Int.reduceEq, Int.reduceBNe, Int.reduceBEq, Int.reduceAdd, Int.reduceSub, Int.reduceMul, Int.reduceNeg, Int.reduceLT, Int.reduceLE, Int.reduceToNat, Nat.reduceLT, Nat.reduceAdd, Nat.reduceSub, Nat.reduceMul, Nat.reduceEqDiff, Nat.reduceLeDiff, Nat.reduceBEq, reduceIte, reduceCtorEq, fixS, fixL, ofU_len, partC]
      rw [bs_str]
      exact Fin.w [0, 1, 2] _ (rdNS base b (at_ + out.length) 111) (by simp (maxSteps := 4000000) only [push_cast, Int.reduceEq, Int.reduceBNe, Int.reduceBEq, Int.reduceAdd, Int.reduceSub, Int.reduceMul, Int.reduceNeg, Int.reduceLT, Int.reduceLE, Int.reduceToNat, Nat.reduceLT, Nat.reduceAdd, Nat.reduceSub, Nat.reduceMul, Nat.reduceEqDiff, Nat.reduceLeDiff, Nat.reduceBEq, reduceIte, reduceCtorEq, rdNS, rdL, fixL, partC]) (fin 111 (by rw [h1]; simp [takeP]) (by rw [if_neg (by omega), h2]; rfl))
    | cons c r =>
      obtain ⟨rfl, rfl⟩ := hN
      simp (maxSteps := 4000000) only [push_cast, Int.reduceEq, Int.reduceBNe, Int.reduceBEq, Int.reduceAdd, Int.reduceSub, Int.reduceMul, Int.reduceNeg, Int.reduceLT, Int.reduceLE, Int.reduceToNat, Nat.reduceLT, Nat.reduceAdd, Nat.reduceSub, Nat.reduceMul, Nat.reduceEqDiff, Nat.reduceLeDiff, Nat.reduceBEq, reduceIte, reduceCtorEq, fixS, fixL, ofU_len, partC]
      refine call_w (hg c) [2] (by simp (maxSteps := 4000000) only [push_cast, Int.reduceEq, Int.reduceBNe, Int.reduceBEq, Int.reduceAdd, Int.reduceSub, Int.reduceMul, Int.reduceNeg, Int.reduceLT, Int.reduceLE, Int.reduceToNat, Nat.reduceLT, Nat.reduceAdd, Nat.reduceSub, Nat.reduceMul, Nat.reduceEqDiff, Nat.reduceLeDiff, Nat.reduceBEq, reduceIte, reduceCtorEq, partC]) ?_
      rintro sv post ⟨rfl, rfl⟩
      simp (maxSteps := 4000000) only [push_cast, Int.reduceEq, Int.reduceBNe, Int.reduceBEq, Int.reduceAdd, Int.reduceSub, Int.reduceMul, Int.reduceNeg, Int.reduceLT, Int.reduceLE, Int.reduceToNat, Nat.reduceLT, Nat.reduceAdd, Nat.reduceSub, Nat.reduceMul, Nat.reduceEqDiff, Nat.reduceLeDiff, Nat.reduceBEq, reduceIte, reduceCtorEq, partC]
      refine ⟨fun hf => ?_, fun hf => ?_⟩
      · have ht : takeP fits (k + 1) (c :: r) = ⟨[], c :: r, false⟩ := by simp only [takeP]; rw [if_neg (by rw [hf]; simp)]
        rw [ht] at h1 h2
        refine inv_of backM (ent_w (back_c b (at_ + out.length + 1) c.toNat (by omega) (by have := congrArg List.length h4; simp at this; omega)) [0] (by simp (maxSteps := 4000000) only [push_cast, Int.reduceEq, Int.reduceBNe, Int.reduceBEq, Int.reduceAdd, Int.reduceSub, Int.reduceMul, Int.reduceNeg, Int.reduceLT, Int.reduceLE, Int.reduceToNat, Nat.reduceLT, Nat.reduceAdd, Nat.reduceSub, Nat.reduceMul, Nat.reduceEqDiff, Nat.reduceLeDiff, Nat.reduceBEq, reduceIte, reduceCtorEq, fixS, fixL]) ?_)
        rintro sv post ⟨rfl, rfl⟩
        simp (maxSteps := 4000000) only [push_cast, Int.reduceEq, Int.reduceBNe, Int.reduceBEq, Int.reduceAdd, Int.reduceSub, Int.reduceMul, Int.reduceNeg, Int.reduceLT, Int.reduceLE, Int.reduceToNat, Nat.reduceLT, Nat.reduceAdd, Nat.reduceSub, Nat.reduceMul, Nat.reduceEqDiff, Nat.reduceLeDiff, Nat.reduceBEq, reduceIte, reduceCtorEq, fixS, fixL, Nat.add_sub_cancel]
        rw [bs_str]
        exact Fin.w [0, 1, 2] _ (rdNS base b (at_ + out.length) 0) (by simp (maxSteps := 4000000) only [push_cast, Int.reduceEq, Int.reduceBNe, Int.reduceBEq, Int.reduceAdd, Int.reduceSub, Int.reduceMul, Int.reduceNeg, Int.reduceLT, Int.reduceLE, Int.reduceToNat, Nat.reduceLT, Nat.reduceAdd, Nat.reduceSub, Nat.reduceMul, Nat.reduceEqDiff, Nat.reduceLeDiff, Nat.reduceBEq, reduceIte, reduceCtorEq, rdNS, rdL, fixL, partC]) (fin 0 (by rw [h1]; simp) (by rw [if_neg (by omega), h2]; rfl))
      · have ht : takeP fits (k + 1) (c :: r) = ⟨c :: (takeP fits k r).s, (takeP fits k r).rest, (takeP fits k r).ended⟩ := by simp only [takeP]; rw [if_pos hf]
        rw [ht] at h1 h2
        have hlt : at_ + out.length < b.length := by
          have := congrArg List.length h4
          rw [List.length_drop, List.length_cons] at this
          omega
        refine ⟨by rw [ofU_len]; omega, ⟨(out ++ [c], k, r), by rw [h1, List.append_assoc]; rfl, h2, by simp only [List.length_append, List.length_cons, List.length_nil]; omega, by simp only [List.length_append, List.length_cons, List.length_nil]; rw [← Nat.add_assoc, ← List.drop_drop, h4]; rfl, by simp only [List.length_append, List.length_cons, List.length_nil]; omega⟩, by simp only; omega, Sub.w [0, 1, 2, 5] ?_⟩
        simp (maxSteps := 4000000) only [push_cast, Int.reduceEq, Int.reduceBNe, Int.reduceBEq, Int.reduceAdd, Int.reduceSub, Int.reduceMul, Int.reduceNeg, Int.reduceLT, Int.reduceLE, Int.reduceToNat, Nat.reduceLT, Nat.reduceAdd, Nat.reduceSub, Nat.reduceMul, Nat.reduceEqDiff, Nat.reduceLeDiff, Nat.reduceBEq, reduceIte, reduceCtorEq, ofU_app, List.length_append, partC]
        exact ⟨rfl, by omega, if_neg (by simp)⟩
  · obtain rfl : k = 0 := by omega
    rw [bs_str]
    refine Fin.w [0, 1, 2] _ (rdNS base b (at_ + out.length) (if out = [] then e else 0)) (by simp (maxSteps := 4000000) only [push_cast, Int.reduceEq, Int.reduceBNe, Int.reduceBEq, Int.reduceAdd, Int.reduceSub, Int.reduceMul, Int.reduceNeg, Int.reduceLT, Int.reduceLE, Int.reduceToNat, Nat.reduceLT, Nat.reduceAdd, Nat.reduceSub, Nat.reduceMul, Nat.reduceEqDiff, Nat.reduceLeDiff, Nat.reduceBEq, reduceIte, reduceCtorEq, rdNS, rdL, fixL, partC]) (fin _ (by rw [h1]; simp [takeP]) ?_)
    rw [h2]
    by_cases hm0 : most = 0
    · rw [if_pos hm0, if_pos (List.eq_nil_of_length_eq_zero (by omega))]
    · rw [if_neg hm0, if_neg (by rintro rfl; simp at h3; omega)]
      rfl
def rdCS (p : PartP) (b : List UInt8) (at_ : Nat) (e : Int) : SS := ⟨[], [(0, 66, fixL b at_), (1, 72, rdL e), (2, 102, (partC p))], [], [], 3, 3, []⟩
def isTakeC (p : PartP) (fits : UInt8 → Bool) (most : Nat) (b : List UInt8) (at_ : Nat) (e : Int) (sv : SV) (post : SS) : Prop :=
  sv = .s (bs (takeP fits most (b.drop at_)).s) ∧ post = rdCS p b (at_ + (takeP fits most (b.drop at_)).s.length) (if most = 0 then e else endE (takeP fits most (b.drop at_)).ended)
theorem takeC_c (p : PartP) (fits : UInt8 → Bool) (g : FuncId) (hg : ∀ c : UInt8, Contract Tryz.prog g ⟨[], [(0, 102, (partC p))], [], [], 1, 1, []⟩ [.i .u8 (c.toNat : Int), .ptr 0 0] (fun sv post => sv = .b (fits c) ∧ post = ⟨[], [(0, 102, (partC p))], [], [], 1, 1, []⟩)) (most : Nat) (hm : most ≤ 100000) (b : List UInt8) (at_ : Nat) (e : Int) (hb : b.length ≤ 140737488355328) (hat : at_ ≤ b.length) :
    Contract Tryz.prog 50 (rdCS p b at_ e) [.ptr 1 0, .i .i64 most, .fn (.func g) [] [.ptr 2 0]] (isTakeC p fits most b at_ e) := by
  refine contract_ev Γok Tryz.func50 rfl rfl [] ?_
  simp (maxSteps := 4000000) only [push_cast, Int.reduceEq, Int.reduceBNe, Int.reduceBEq, Int.reduceAdd, Int.reduceSub, Int.reduceMul, Int.reduceNeg, Int.reduceLT, Int.reduceLE, Int.reduceToNat, Nat.reduceLT, Nat.reduceAdd, Nat.reduceSub, Nat.reduceMul, Nat.reduceEqDiff, Nat.reduceLeDiff, Nat.reduceBEq, reduceIte, reduceCtorEq, Tryz.f50, rdCS, rdL, fixL, partC]
  refine loop_ok (ι := {q : List UInt8 × Nat × List UInt8 // (takeP fits most (b.drop at_)).s = q.1 ++ (takeP fits q.2.1 q.2.2).s ∧ (takeP fits most (b.drop at_)).ended = (takeP fits q.2.1 q.2.2).ended ∧ q.1.length + q.2.1 = most ∧ b.drop (at_ + q.1.length) = q.2.2 ∧ at_ + q.1.length ≤ b.length})
    (fun q => ⟨[.ptr 1 0, .i .i64 most, .fn (.func g) [] [.ptr 2 0], .any, .any, .any, .any, .ints .u8 (.tok 3 true) (ofU q.1.1)] ++ List.replicate 36 .any, [(0, 66, fixL b (at_ + q.1.1.length)), (1, 72, rdL (if q.1.1 = [] then e else 0)), (2, 102, (partC p))], [3], [], 4, 3, []⟩) (fun q => q.1.2.1) ⟨([], most, b.drop at_), by simp, rfl, by simp, by simp, by simpa using hat⟩ ?_ ?_
  · refine Sub.trans (Sub.tokFr 7 rfl) (Sub.w [0, 1, 2, 3] ?_)
    simp (maxSteps := 4000000) only [push_cast, Int.reduceEq, Int.reduceBNe, Int.reduceBEq, Int.reduceAdd, Int.reduceSub, Int.reduceMul, Int.reduceNeg, Int.reduceLT, Int.reduceLE, Int.reduceToNat, Nat.reduceLT, Nat.reduceAdd, Nat.reduceSub, Nat.reduceMul, Nat.reduceEqDiff, Nat.reduceLeDiff, Nat.reduceBEq, reduceIte, reduceCtorEq, fixL, rdL, partC]
    rfl
  rintro ⟨⟨out, k, r⟩, h1, h2, h3, h4, h5⟩
  simp only at h1 h2 h3 h4 h5
  refine evCode_sound Γok _ _ _ ?_
  simp (maxSteps := 4000000) only [push_cast, Int.reduceEq, Int.reduceBNe, Int.reduceBEq, Int.reduceAdd, Int.reduceSub, Int.reduceMul, Int.reduceNeg, Int.reduceLT, Int.reduceLE, Int.reduceToNat, Nat.reduceLT, Nat.reduceAdd, Nat.reduceSub, Nat.reduceMul, Nat.reduceEqDiff, Nat.reduceLeDiff, Nat.reduceBEq, reduceIte, reduceCtorEq, ofU_len, rdL, fixL, partC]
  have fin : ∀ (x : Int), (takeP fits most (b.drop at_)).s = out → x = (if most = 0 then e else endE (takeP fits most (b.drop at_)).ended) → isTakeC p fits most b at_ e (.s (bs out)) (rdCS p b (at_ + out.length) x) := by
    rintro x hs rfl
    unfold isTakeC
    rw [hs]
    exact ⟨rfl, rfl⟩
  refine ⟨fun h => ?_, fun h => ?_⟩
  · obtain ⟨k, rfl⟩ : ∃ k', k = k' + 1 := ⟨k - 1, by omega⟩
    refine inv_of nextM (ent_w (next_c b (at_ + out.length) hb h5) [0] (by simp (maxSteps := 4000000) only [push_cast, Int.reduceEq, Int.reduceBNe, Int.reduceBEq, Int.reduceAdd, Int.reduceSub, Int.reduceMul, Int.reduceNeg, Int.reduceLT, Int.reduceLE, Int.reduceToNat, Nat.reduceLT, Nat.reduceAdd, Nat.reduceSub, Nat.reduceMul, Nat.reduceEqDiff, Nat.reduceLeDiff, Nat.reduceBEq, reduceIte, reduceCtorEq, fixS, fixL]) ?_)
    intro sv post hN
    unfold isNext at hN
    rw [h4] at hN
    cases r with
    | nil =>
      obtain ⟨rfl, rfl⟩ := hN
      simp (maxSteps := 4000000) only [push_cast, Int.reduceEq, Int.reduceBNe, Int.reduceBEq, Int.reduceAdd, Int.reduceSub, Int.reduceMul, Int.reduceNeg, Int.reduceLT, Int.reduceLE, Int.reduceToNat, Nat.reduceLT, Nat.reduceAdd, Nat.reduceSub, Nat.reduceMul, Nat.reduceEqDiff, Nat.reduceLeDiff, Nat.reduceBEq, reduceIte, reduceCtorEq, fixS, fixL, ofU_len, partC]
      rw [bs_str]
      exact Fin.w [0, 1, 2] _ (rdCS p b (at_ + out.length) 111) (by simp (maxSteps := 4000000) only [push_cast, Int.reduceEq, Int.reduceBNe, Int.reduceBEq, Int.reduceAdd, Int.reduceSub, Int.reduceMul, Int.reduceNeg, Int.reduceLT, Int.reduceLE, Int.reduceToNat, Nat.reduceLT, Nat.reduceAdd, Nat.reduceSub, Nat.reduceMul, Nat.reduceEqDiff, Nat.reduceLeDiff, Nat.reduceBEq, reduceIte, reduceCtorEq, rdCS, rdL, fixL, partC]) (fin 111 (by rw [h1]; simp [takeP]) (by rw [if_neg (by omega), h2]; rfl))
    | cons c r =>
      obtain ⟨rfl, rfl⟩ := hN
      simp (maxSteps := 4000000) only [push_cast, Int.reduceEq, Int.reduceBNe, Int.reduceBEq, Int.reduceAdd, Int.reduceSub, Int.reduceMul, Int.reduceNeg, Int.reduceLT, Int.reduceLE, Int.reduceToNat, Nat.reduceLT, Nat.reduceAdd, Nat.reduceSub, Nat.reduceMul, Nat.reduceEqDiff, Nat.reduceLeDiff, Nat.reduceBEq, reduceIte, reduceCtorEq, fixS, fixL, ofU_len, partC]
      refine call_w (hg c) [2] (by simp (maxSteps := 4000000) only [push_cast, Int.reduceEq, Int.reduceBNe, Int.reduceBEq, Int.reduceAdd, Int.reduceSub, Int.reduceMul, Int.reduceNeg, Int.reduceLT, Int.reduceLE, Int.reduceToNat, Nat.reduceLT, Nat.reduceAdd, Nat.reduceSub, Nat.reduceMul, Nat.reduceEqDiff, Nat.reduceLeDiff, Nat.reduceBEq, reduceIte, reduceCtorEq, partC]) ?_
      rintro sv post ⟨rfl, rfl⟩
      simp (maxSteps := 4000000) only [push_cast, Int.reduceEq, Int.reduceBNe, Int.reduceBEq, Int.reduceAdd, Int.reduceSub, Int.reduceMul, Int.reduceNeg, Int.reduceLT, Int.reduceLE, Int.reduceToNat, Nat.reduceLT, Nat.reduceAdd, Nat.reduceSub, Nat.reduceMul, Nat.reduceEqDiff, Nat.reduceLeDiff, Nat.reduceBEq, reduceIte, reduceCtorEq, partC]
      refine ⟨fun hf => ?_, fun hf => ?_⟩
      · have ht : takeP fits (k + 1) (c :: r) = ⟨[], c :: r, false⟩ := by simp only [takeP]; rw [if_neg (by rw [hf]; simp)]
        rw [ht] at h1 h2
        refine inv_of backM (ent_w (back_c b (at_ + out.length + 1) c.toNat (by omega) (by have := congrArg List.length h4; simp at this; omega)) [0] (by simp (maxSteps := 4000000) only [push_cast, Int.reduceEq, Int.reduceBNe, Int.reduceBEq, Int.reduceAdd, Int.reduceSub, Int.reduceMul, Int.reduceNeg, Int.reduceLT, Int.reduceLE, Int.reduceToNat, Nat.reduceLT, Nat.reduceAdd, Nat.reduceSub, Nat.reduceMul, Nat.reduceEqDiff, Nat.reduceLeDiff, Nat.reduceBEq, reduceIte, reduceCtorEq, fixS, fixL]) ?_)
        rintro sv post ⟨rfl, rfl⟩
        simp (maxSteps := 4000000) only [push_cast, Int.reduceEq, Int.reduceBNe, Int.reduceBEq, Int.reduceAdd, Int.reduceSub, Int.reduceMul, Int.reduceNeg, Int.reduceLT, Int.reduceLE, Int.reduceToNat, Nat.reduceLT, Nat.reduceAdd, Nat.reduceSub, Nat.reduceMul, Nat.reduceEqDiff, Nat.reduceLeDiff, Nat.reduceBEq, reduceIte, reduceCtorEq, fixS, fixL, Nat.add_sub_cancel]
        rw [bs_str]
        exact Fin.w [0, 1, 2] _ (rdCS p b (at_ + out.length) 0) (by simp (maxSteps := 4000000) only [push_cast, Int.reduceEq, Int.reduceBNe, Int.reduceBEq, Int.reduceAdd, Int.reduceSub, Int.reduceMul, Int.reduceNeg, Int.reduceLT, Int.reduceLE, Int.reduceToNat, Nat.reduceLT, Nat.reduceAdd, Nat.reduceSub, Nat.reduceMul, Nat.reduceEqDiff, Nat.reduceLeDiff, Nat.reduceBEq, reduceIte, reduceCtorEq, rdCS, rdL, fixL, partC]) (fin 0 (by rw [h1]; simp) (by rw [if_neg (by omega), h2]; rfl))
      · have ht : takeP fits (k + 1) (c :: r) = ⟨c :: (takeP fits k r).s, (takeP fits k r).rest, (takeP fits k r).ended⟩ := by simp only [takeP]; rw [if_pos hf]
        rw [ht] at h1 h2
        have hlt : at_ + out.length < b.length := by
          have := congrArg List.length h4
          rw [List.length_drop, List.length_cons] at this
          omega
        refine ⟨by rw [ofU_len]; omega, ⟨(out ++ [c], k, r), by rw [h1, List.append_assoc]; rfl, h2, by simp only [List.length_append, List.length_cons, List.length_nil]; omega, by simp only [List.length_append, List.length_cons, List.length_nil]; rw [← Nat.add_assoc, ← List.drop_drop, h4]; rfl, by simp only [List.length_append, List.length_cons, List.length_nil]; omega⟩, by simp only; omega, Sub.w [0, 1, 2, 5] ?_⟩
        simp (maxSteps := 4000000) only [push_cast, Int.reduceEq, Int.reduceBNe, Int.reduceBEq, Int.reduceAdd, Int.reduceSub, Int.reduceMul, Int.reduceNeg, Int.reduceLT, Int.reduceLE, Int.reduceToNat, Nat.reduceLT, Nat.reduceAdd, Nat.reduceSub, Nat.reduceMul, Nat.reduceEqDiff, Nat.reduceLeDiff, Nat.reduceBEq, reduceIte, reduceCtorEq, ofU_app, List.length_append, partC]
        exact ⟨rfl, by omega, if_neg (by simp)⟩
  · obtain rfl : k = 0 := by omega
    rw [bs_str]
    refine Fin.w [0, 1, 2] _ (rdCS p b (at_ + out.length) (if out = [] then e else 0)) (by simp (maxSteps := 4000000) only [push_cast, Int.reduceEq, Int.reduceBNe, Int.reduceBEq, Int.reduceAdd, Int.reduceSub, Int.reduceMul, Int.reduceNeg, Int.reduceLT, Int.reduceLE, Int.reduceToNat, Nat.reduceLT, Nat.reduceAdd, Nat.reduceSub, Nat.reduceMul, Nat.reduceEqDiff, Nat.reduceLeDiff, Nat.reduceBEq, reduceIte, reduceCtorEq, rdCS, rdL, fixL, partC]) (fin _ (by rw [h1]; simp [takeP]) ?_)
    rw [h2]
    by_cases hm0 : most = 0
    · rw [if_pos hm0, if_pos (List.eq_nil_of_length_eq_zero (by omega))]
    · rw [if_neg hm0, if_neg (by rintro rfl; simp at h3; omega)]
      rfl
end Go.Proofs.YtmciepkhpocafaaGreat
/- Scan: numbers. -/
namespace Go.Proofs.YtmciepkhpocafaaGreat
open Go Go.Eng
set_option maxHeartbeats 4000000
set_option linter.unusedSimpArgs false
set_option linter.unusedVariables false
set_option maxRecDepth 100000

def baseQ (v : UInt8) : Nat := if v = 120 then 16 else if v = 111 then 8 else 10
theorem baseQ_ok (v : UInt8) : 2 ≤ baseQ v ∧ baseQ v ≤ 16 := by unfold baseQ; split <;> (try split) <;> omega
theorem q120 (v : UInt8) : ((v.toNat : Int) = 120) = (v = 120) := propext (u8iY v 120)
theorem q111 (v : UInt8) : ((v.toNat : Int) = 111) = (v = 111) := propext (u8iY v 111)
theorem q100 (v : UInt8) : ((v.toNat : Int) = 100) = (v = 100) := propext (u8iY v 100)
theorem q99 (v : UInt8) : ((v.toNat : Int) = 99) = (v = 99) := propext (u8iY v 99)
theorem q115 (v : UInt8) : ((v.toNat : Int) = 115) = (v = 115) := propext (u8iY v 115)
theorem q0 (v : UInt8) : ((v.toNat : Int) = 0) = (v = 0) := propext (u8iY v 0)
theorem partBase_c (p : PartP) : Contract Tryz.prog 83 nilSS [.agg (partC p)] (fun sv post => sv = .i .i64 (baseQ p.verb) ∧ post = nilSS) := by
  refine contract_ev Γok Tryz.func83 rfl rfl [] ?_
  simp (maxSteps := 4000000) only [push_cast, Int.reduceEq, Int.reduceBNe, Int.reduceBEq, Int.reduceAdd, Int.reduceSub, Int.reduceMul, Int.reduceNeg, Int.reduceLT, Int.reduceLE, Int.reduceToNat, Nat.reduceLT, Nat.reduceAdd, Nat.reduceSub, Nat.reduceMul, Nat.reduceEqDiff, Nat.reduceLeDiff, Nat.reduceBEq, reduceIte, reduceCtorEq, Tryz.f83, partC, q120, q111]
  refine ⟨fun h => ?_, fun h => ⟨fun h1 => ?_, fun h1 => ?_⟩⟩
  · exact Fin.w [] (.i .i64 16) _ (by simp (maxSteps := 4000000) only [push_cast, Int.reduceEq, Int.reduceBNe, Int.reduceBEq, Int.reduceAdd, Int.reduceSub, Int.reduceMul, Int.reduceNeg, Int.reduceLT, Int.reduceLE, Int.reduceToNat, Nat.reduceLT, Nat.reduceAdd, Nat.reduceSub, Nat.reduceMul, Nat.reduceEqDiff, Nat.reduceLeDiff, Nat.reduceBEq, reduceIte, reduceCtorEq]) ⟨by unfold baseQ; rw [if_pos h]; rfl, rfl⟩
  · exact Fin.w [] (.i .i64 8) _ (by simp (maxSteps := 4000000) only [push_cast, Int.reduceEq, Int.reduceBNe, Int.reduceBEq, Int.reduceAdd, Int.reduceSub, Int.reduceMul, Int.reduceNeg, Int.reduceLT, Int.reduceLE, Int.reduceToNat, Nat.reduceLT, Nat.reduceAdd, Nat.reduceSub, Nat.reduceMul, Nat.reduceEqDiff, Nat.reduceLeDiff, Nat.reduceBEq, reduceIte, reduceCtorEq]) ⟨by unfold baseQ; rw [if_neg h, if_pos h1]; rfl, rfl⟩
  · exact Fin.w [] (.i .i64 10) _ (by simp (maxSteps := 4000000) only [push_cast, Int.reduceEq, Int.reduceBNe, Int.reduceBEq, Int.reduceAdd, Int.reduceSub, Int.reduceMul, Int.reduceNeg, Int.reduceLT, Int.reduceLE, Int.reduceToNat, Nat.reduceLT, Nat.reduceAdd, Nat.reduceSub, Nat.reduceMul, Nat.reduceEqDiff, Nat.reduceLeDiff, Nat.reduceBEq, reduceIte, reduceCtorEq]) ⟨by unfold baseQ; rw [if_neg h, if_neg h1]; rfl, rfl⟩

def isSign (c : UInt8) : Bool := decide (c = 43) || decide (c = 45)
theorem sign_c (c : UInt8) : Contract Tryz.prog 82 nilSS [.i .u8 (c.toNat : Int)] (fun sv post => sv = .b (isSign c) ∧ post = nilSS) := by
  refine contract_ev Γok Tryz.func82 rfl rfl [] ?_
  simp (maxSteps := 4000000) only [push_cast, Int.reduceEq, Int.reduceBNe, Int.reduceBEq, Int.reduceAdd, Int.reduceSub, Int.reduceMul, Int.reduceNeg, Int.reduceLT, Int.reduceLE, Int.reduceToNat, Nat.reduceLT, Nat.reduceAdd, Nat.reduceSub, Nat.reduceMul, Nat.reduceEqDiff, Nat.reduceLeDiff, Nat.reduceBEq, reduceIte, reduceCtorEq, Tryz.f82]
  have h1 : ((c.toNat : Int) = 43) = (c = 43) := propext (u8iY c 43)
  have h2 : ((c.toNat : Int) = 45) = (c = 45) := propext (u8iY c 45)
  have e : ((c.toNat : Int) == 43 || (c.toNat : Int) == 45) = isSign c := by
    unfold isSign
    rw [Bool.eq_iff_iff]
    simp only [Bool.or_eq_true, beq_iff_eq, decide_eq_true_eq, h1, h2]
  rw [e]
  exact Fin.w [] (.b (isSign c)) _ (by simp (maxSteps := 4000000) only [push_cast, Int.reduceEq, Int.reduceBNe, Int.reduceBEq, Int.reduceAdd, Int.reduceSub, Int.reduceMul, Int.reduceNeg, Int.reduceLT, Int.reduceLE, Int.reduceToNat, Nat.reduceLT, Nat.reduceAdd, Nat.reduceSub, Nat.reduceMul, Nat.reduceEqDiff, Nat.reduceLeDiff, Nat.reduceBEq, reduceIte, reduceCtorEq]) ⟨rfl, rfl⟩

/-- Is it a digit to a base? -/
def fitB (base : Nat) (c : UInt8) : Bool := decide (0 ≤ worthP c) && decide (worthP c < base)
theorem one_digit (base : Nat) (c : UInt8) (h2 : 2 ≤ base) (h16 : base ≤ 16) : ((parseBaseP base [c]).2.1 == 0) = fitB base c := by
  unfold parseBaseP fitB
  rw [if_neg (by simp)]
  simp only [baseF]
  by_cases h : worthP c < 0 ∨ (base : Int) ≤ worthP c
  · rw [if_pos h]
    have : (decide (0 ≤ worthP c) && decide (worthP c < base)) = false := by
      rw [Bool.and_eq_false_iff, decide_eq_false_iff_not, decide_eq_false_iff_not]
      omega
    rw [this]; rfl
  · rw [if_neg h, if_neg (by omega)]
    have : (decide (0 ≤ worthP c) && decide (worthP c < base)) = true := by
      rw [Bool.and_eq_true, decide_eq_true_eq, decide_eq_true_eq]
      omega
    rw [this]; rfl
theorem digitB_c (base : Nat) (h2 : 2 ≤ base) (h16 : base ≤ 16) (c : UInt8) : Contract Tryz.prog 84 ⟨[], [(0, 3, [.i .i64 base])], [], [], 1, 1, []⟩ [.i .u8 (c.toNat : Int), .ptr 0 0] (fun sv post => sv = .b (fitB base c) ∧ post = ⟨[], [(0, 3, [.i .i64 base])], [], [], 1, 1, []⟩) := by
  refine contract_ev Γok Tryz.func84 rfl rfl [] ?_
  simp (maxSteps := 4000000) only [push_cast, Int.reduceEq, Int.reduceBNe, Int.reduceBEq, Int.reduceAdd, Int.reduceSub, Int.reduceMul, Int.reduceNeg, Int.reduceLT, Int.reduceLE, Int.reduceToNat, Nat.reduceLT, Nat.reduceAdd, Nat.reduceSub, Nat.reduceMul, Nat.reduceEqDiff, Nat.reduceLeDiff, Nat.reduceBEq, reduceIte, reduceCtorEq, Tryz.f84]
  have e : strOf [(c.toNat : Int)] = bs [c] := bs_str [c]
  rw [e]
  refine call_w (parseBase_c [c] base h2 h16 (by simp)) [] (by simp (maxSteps := 4000000) only [push_cast, Int.reduceEq, Int.reduceBNe, Int.reduceBEq, Int.reduceAdd, Int.reduceSub, Int.reduceMul, Int.reduceNeg, Int.reduceLT, Int.reduceLE, Int.reduceToNat, Nat.reduceLT, Nat.reduceAdd, Nat.reduceSub, Nat.reduceMul, Nat.reduceEqDiff, Nat.reduceLeDiff, Nat.reduceBEq, reduceIte, reduceCtorEq]) ?_
  rintro sv post ⟨rfl, rfl⟩
  simp (maxSteps := 4000000) only [push_cast, Int.reduceEq, Int.reduceBNe, Int.reduceBEq, Int.reduceAdd, Int.reduceSub, Int.reduceMul, Int.reduceNeg, Int.reduceLT, Int.reduceLE, Int.reduceToNat, Nat.reduceLT, Nat.reduceAdd, Nat.reduceSub, Nat.reduceMul, Nat.reduceEqDiff, Nat.reduceLeDiff, Nat.reduceBEq, reduceIte, reduceCtorEq]
  rw [one_digit base c h2 h16]
  exact Fin.w [0] (.b (fitB base c)) _ (by simp (maxSteps := 4000000) only [push_cast, Int.reduceEq, Int.reduceBNe, Int.reduceBEq, Int.reduceAdd, Int.reduceSub, Int.reduceMul, Int.reduceNeg, Int.reduceLT, Int.reduceLE, Int.reduceToNat, Nat.reduceLT, Nat.reduceAdd, Nat.reduceSub, Nat.reduceMul, Nat.reduceEqDiff, Nat.reduceLeDiff, Nat.reduceBEq, reduceIte, reduceCtorEq]) ⟨rfl, rfl⟩
end Go.Proofs.YtmciepkhpocafaaGreat
/- Scan: a number. -/
namespace Go.Proofs.YtmciepkhpocafaaGreat
open Go Go.Eng
set_option maxHeartbeats 4000000
set_option linter.unusedSimpArgs false
set_option linter.unusedVariables false
set_option maxRecDepth 100000

def argQ (a : AV) : List SV := [.i .i64 a.kind, .i .i64 a.n, .i .u64 a.u, .s (bs a.t)]
def noArg : AV := ⟨0, 0, 0, []⟩
def sgnQ (p : PartP) (l : List UInt8) : Got := if p.verb = 100 then takeP isSign 1 l else ⟨[], l, false⟩
def digQ (p : PartP) (most : Nat) (l : List UInt8) : Got := if (sgnQ p l).s.length < most then takeP (fitB (baseQ p.verb)) (most - (sgnQ p l).s.length) (l.drop (sgnQ p l).s.length) else ⟨[], [], false⟩
/-- The Arg, the error, how many bytes were used up, the error that the source told last. -/
def numberQ (p : PartP) (most : Nat) (l : List UInt8) : AV × Int × Nat × Int :=
  let S := sgnQ p l
  let T := digQ p most l
  let N := parseBaseP (baseQ p.verb) T.s
  if T.s = [] then (noArg, lackE T.ended, S.s.length, endE T.ended)
  else if N.2.1 ≠ 0 then (noArg, 181, S.s.length + T.s.length, endE T.ended)
  else if p.verb ≠ 100 then (⟨2, 0, N.1, []⟩, 0, S.s.length + T.s.length, 0)
  else if 9223372036854775808 < N.1 ∨ N.1 = 9223372036854775808 ∧ S.s ≠ [45] then (noArg, 181, S.s.length + T.s.length, endE T.ended)
  else (⟨1, if S.s = [45] then -(N.1 : Int) else N.1, 0, []⟩, 0, S.s.length + T.s.length, 0)
def isOneQ (R : AV × Int × Nat × Int) (b : List UInt8) (at_ : Nat) (sv : SV) (post : SS) : Prop := sv = .tup [.agg (argQ R.1), .i .i64 R.2.1] ∧ post = rdS b (at_ + R.2.2.1) R.2.2.2
theorem lack_end (x : Bool) : (if endE x = 0 then 181 else endE x) = lackE x := by cases x <;> rfl
theorem soft_end (x : Bool) : (if endE x = 111 then 0 else endE x) = 0 := by cases x <;> rfl
def numHp (p : PartP) (b : List UInt8) (at_ : Nat) (e : Int) : List (Nat × TypeId × List SV) := [(0, 66, fixL b at_), (1, 72, rdL e), (2, 102, partC p), (3, 32, [.i .i64 0, .i .i64 0, .i .u64 0, .s (bs [])])]
theorem number_q (p : PartP) (most : Nat) (hm0 : 1 ≤ most) (hm : most ≤ 4096) (b : List UInt8) (at_ : Nat) (e : Int) (hb : b.length ≤ 140737488355328) (hat : at_ ≤ b.length) :
    Contract Tryz.prog 58 (rdS b at_ e) [.ptr 1 0, .agg (partC p), .i .i64 most] (isOneQ (numberQ p most (b.drop at_)) b at_) := by
  refine contract_of Γok Tryz.func58 rfl rfl (stop := []) ?_
  simp only [Tryz.f58]
  generalize hl : b.drop at_ = l
  have hll : l.length = b.length - at_ := by rw [← hl, List.length_drop]
  refine CodeOK.seq (evCode_sound Γok _ _ _ ?_)
  simp (maxSteps := 4000000) only [push_cast, Int.reduceEq, Int.reduceBNe, Int.reduceBEq, Int.reduceAdd, Int.reduceSub, Int.reduceMul, Int.reduceNeg, Int.reduceLT, Int.reduceLE, Int.reduceToNat, Nat.reduceLT, Nat.reduceAdd, Nat.reduceSub, Nat.reduceMul, Nat.reduceEqDiff, Nat.reduceLeDiff, Nat.reduceBEq, reduceIte, reduceCtorEq, rdS, rdL, fixL, partC]
  refine CodeOK.seq (evCode_sound Γok _ _ _ ?_)
  simp (maxSteps := 4000000) only [push_cast, Int.reduceEq, Int.reduceBNe, Int.reduceBEq, Int.reduceAdd, Int.reduceSub, Int.reduceMul, Int.reduceNeg, Int.reduceLT, Int.reduceLE, Int.reduceToNat, Nat.reduceLT, Nat.reduceAdd, Nat.reduceSub, Nat.reduceMul, Nat.reduceEqDiff, Nat.reduceLeDiff, Nat.reduceBEq, reduceIte, reduceCtorEq, mk_bs]
  refine code_cut ⟨[.ptr 1 0, .any, .i .i64 most, .any, .ptr 2 0, .any, .ptr 3 0, .any, .s (bs (sgnQ p l).s)] ++ List.replicate 68 .any, numHp p b (at_ + (sgnQ p l).s.length) (if p.verb = 100 then endE (sgnQ p l).ended else e), [], [], 4, 2, []⟩ (evCode_sound Γok _ _ _ ?_) (CodeOK.seq (evCode_sound Γok _ _ _ ?_))
  · simp (maxSteps := 4000000) only [push_cast, Int.reduceEq, Int.reduceBNe, Int.reduceBEq, Int.reduceAdd, Int.reduceSub, Int.reduceMul, Int.reduceNeg, Int.reduceLT, Int.reduceLE, Int.reduceToNat, Nat.reduceLT, Nat.reduceAdd, Nat.reduceSub, Nat.reduceMul, Nat.reduceEqDiff, Nat.reduceLeDiff, Nat.reduceBEq, reduceIte, reduceCtorEq, q100, mk_bs]
    refine ⟨fun h => ?_, fun h => ?_⟩
    · refine call_w (takeA_c isSign 82 sign_c 1 (by omega) b at_ e hb hat) [0, 1] (by simp (maxSteps := 4000000) only [push_cast, Int.reduceEq, Int.reduceBNe, Int.reduceBEq, Int.reduceAdd, Int.reduceSub, Int.reduceMul, Int.reduceNeg, Int.reduceLT, Int.reduceLE, Int.reduceToNat, Nat.reduceLT, Nat.reduceAdd, Nat.reduceSub, Nat.reduceMul, Nat.reduceEqDiff, Nat.reduceLeDiff, Nat.reduceBEq, reduceIte, reduceCtorEq, rdS, rdL, fixL]) ?_
      rintro sv post ⟨rfl, rfl⟩
      rw [hl]
      simp (maxSteps := 4000000) only [push_cast, Int.reduceEq, Int.reduceBNe, Int.reduceBEq, Int.reduceAdd, Int.reduceSub, Int.reduceMul, Int.reduceNeg, Int.reduceLT, Int.reduceLE, Int.reduceToNat, Nat.reduceLT, Nat.reduceAdd, Nat.reduceSub, Nat.reduceMul, Nat.reduceEqDiff, Nat.reduceLeDiff, Nat.reduceBEq, reduceIte, reduceCtorEq, rdS, rdL, fixL]
      refine Sub.w [0, 1, 2, 3] ?_
      simp (maxSteps := 4000000) only [push_cast, Int.reduceEq, Int.reduceBNe, Int.reduceBEq, Int.reduceAdd, Int.reduceSub, Int.reduceMul, Int.reduceNeg, Int.reduceLT, Int.reduceLE, Int.reduceToNat, Nat.reduceLT, Nat.reduceAdd, Nat.reduceSub, Nat.reduceMul, Nat.reduceEqDiff, Nat.reduceLeDiff, Nat.reduceBEq, reduceIte, reduceCtorEq, numHp, rdL, fixL, partC, mk_bs]
      have e1 : sgnQ p l = takeP isSign 1 l := if_pos h
      rw [e1, if_pos h]
      exact ⟨rfl, rfl, rfl⟩
    · refine Sub.w [0, 1, 2, 3] ?_
      simp (maxSteps := 4000000) only [push_cast, Int.reduceEq, Int.reduceBNe, Int.reduceBEq, Int.reduceAdd, Int.reduceSub, Int.reduceMul, Int.reduceNeg, Int.reduceLT, Int.reduceLE, Int.reduceToNat, Nat.reduceLT, Nat.reduceAdd, Nat.reduceSub, Nat.reduceMul, Nat.reduceEqDiff, Nat.reduceLeDiff, Nat.reduceBEq, reduceIte, reduceCtorEq, numHp, rdL, fixL, partC, mk_bs]
      have e1 : sgnQ p l = ⟨[], l, false⟩ := if_neg h
      rw [e1, if_neg h]
      exact ⟨rfl, by simp, rfl⟩
  simp (maxSteps := 4000000) only [push_cast, Int.reduceEq, Int.reduceBNe, Int.reduceBEq, Int.reduceAdd, Int.reduceSub, Int.reduceMul, Int.reduceNeg, Int.reduceLT, Int.reduceLE, Int.reduceToNat, Nat.reduceLT, Nat.reduceAdd, Nat.reduceSub, Nat.reduceMul, Nat.reduceEqDiff, Nat.reduceLeDiff, Nat.reduceBEq, reduceIte, reduceCtorEq, numHp, rdL, fixL, partC]
  have hsl : (sgnQ p l).s.length ≤ 1 ∧ (sgnQ p l).s.length ≤ l.length := by
    unfold sgnQ
    split
    · exact takeP_len isSign 1 l
    · simp
  have hdrop : b.drop (at_ + (sgnQ p l).s.length) = l.drop (sgnQ p l).s.length := by rw [← List.drop_drop, hl]
  generalize he1 : (if p.verb = 100 then endE (sgnQ p l).ended else e) = e1
  refine call_w (partBase_c p) [] (by simp (maxSteps := 4000000) only [push_cast, Int.reduceEq, Int.reduceBNe, Int.reduceBEq, Int.reduceAdd, Int.reduceSub, Int.reduceMul, Int.reduceNeg, Int.reduceLT, Int.reduceLE, Int.reduceToNat, Nat.reduceLT, Nat.reduceAdd, Nat.reduceSub, Nat.reduceMul, Nat.reduceEqDiff, Nat.reduceLeDiff, Nat.reduceBEq, reduceIte, reduceCtorEq, partC]) ?_
  rintro sv post ⟨rfl, rfl⟩
  simp (maxSteps := 4000000) only [push_cast, Int.reduceEq, Int.reduceBNe, Int.reduceBEq, Int.reduceAdd, Int.reduceSub, Int.reduceMul, Int.reduceNeg, Int.reduceLT, Int.reduceLE, Int.reduceToNat, Nat.reduceLT, Nat.reduceAdd, Nat.reduceSub, Nat.reduceMul, Nat.reduceEqDiff, Nat.reduceLeDiff, Nat.reduceBEq, reduceIte, reduceCtorEq]
  refine CodeOK.seq (evCode_sound Γok _ _ _ ?_)
  simp (maxSteps := 4000000) only [push_cast, Int.reduceEq, Int.reduceBNe, Int.reduceBEq, Int.reduceAdd, Int.reduceSub, Int.reduceMul, Int.reduceNeg, Int.reduceLT, Int.reduceLE, Int.reduceToNat, Nat.reduceLT, Nat.reduceAdd, Nat.reduceSub, Nat.reduceMul, Nat.reduceEqDiff, Nat.reduceLeDiff, Nat.reduceBEq, reduceIte, reduceCtorEq, mk_bs]
  have hbq := baseQ_ok p.verb
  refine code_cut ⟨[.ptr 1 0, .any, .i .i64 most, .any, .ptr 2 0, .any, .ptr 3 0, .any, .s (bs (sgnQ p l).s), .ptr 4 0, .s (bs (digQ p most l).s)] ++ List.replicate 66 .any, numHp p b (at_ + (sgnQ p l).s.length + (digQ p most l).s.length) (endE (digQ p most l).ended) ++ [(4, 3, [.i .i64 (baseQ p.verb)])], [], [], 5, 2, []⟩ (evCode_sound Γok _ _ _ ?_) (evCode_sound Γok _ _ _ ?_)
  · simp (maxSteps := 4000000) only [push_cast, Int.reduceEq, Int.reduceBNe, Int.reduceBEq, Int.reduceAdd, Int.reduceSub, Int.reduceMul, Int.reduceNeg, Int.reduceLT, Int.reduceLE, Int.reduceToNat, Nat.reduceLT, Nat.reduceAdd, Nat.reduceSub, Nat.reduceMul, Nat.reduceEqDiff, Nat.reduceLeDiff, Nat.reduceBEq, reduceIte, reduceCtorEq, bs_size, mk_bs]
    refine ⟨fun h => ?_, fun h => ?_⟩
    · have e2 : digQ p most l = takeP (fitB (baseQ p.verb)) (most - (sgnQ p l).s.length) (l.drop (sgnQ p l).s.length) := if_pos (by omega)
      have e3 : IntKind.i64.wrap ((most : Int) - ((sgnQ p l).s.length : Int)) = ((most - (sgnQ p l).s.length : Nat) : Int) := by rw [wrap64 (by omega) (by omega)]; omega
      rw [e3]
      refine call_w (takeN_c (baseQ p.verb) (fitB (baseQ p.verb)) 84 (digitB_c (baseQ p.verb) hbq.1 hbq.2) (most - (sgnQ p l).s.length) (by omega) b (at_ + (sgnQ p l).s.length) e1 hb (by omega)) [0, 1, 4] (by simp (maxSteps := 4000000) only [push_cast, Int.reduceEq, Int.reduceBNe, Int.reduceBEq, Int.reduceAdd, Int.reduceSub, Int.reduceMul, Int.reduceNeg, Int.reduceLT, Int.reduceLE, Int.reduceToNat, Nat.reduceLT, Nat.reduceAdd, Nat.reduceSub, Nat.reduceMul, Nat.reduceEqDiff, Nat.reduceLeDiff, Nat.reduceBEq, reduceIte, reduceCtorEq, rdNS, rdL, fixL]) ?_
      rintro sv post ⟨rfl, rfl⟩
      rw [hdrop, ← e2, if_neg (show ¬ most - (sgnQ p l).s.length = 0 by omega)]
      simp (maxSteps := 4000000) only [push_cast, Int.reduceEq, Int.reduceBNe, Int.reduceBEq, Int.reduceAdd, Int.reduceSub, Int.reduceMul, Int.reduceNeg, Int.reduceLT, Int.reduceLE, Int.reduceToNat, Nat.reduceLT, Nat.reduceAdd, Nat.reduceSub, Nat.reduceMul, Nat.reduceEqDiff, Nat.reduceLeDiff, Nat.reduceBEq, reduceIte, reduceCtorEq, rdNS, rdL, fixL]
      refine Sub.w [0, 1, 2, 3, 4] ?_
      simp (maxSteps := 4000000) only [push_cast, Int.reduceEq, Int.reduceBNe, Int.reduceBEq, Int.reduceAdd, Int.reduceSub, Int.reduceMul, Int.reduceNeg, Int.reduceLT, Int.reduceLE, Int.reduceToNat, Nat.reduceLT, Nat.reduceAdd, Nat.reduceSub, Nat.reduceMul, Nat.reduceEqDiff, Nat.reduceLeDiff, Nat.reduceBEq, reduceIte, reduceCtorEq, numHp, rdL, fixL, partC, mk_bs]
    · have e2 : digQ p most l = ⟨[], [], false⟩ := if_neg (by omega)
      rw [e2]
      refine Sub.w [0, 1, 2, 3, 4] ?_
      simp (maxSteps := 4000000) only [push_cast, Int.reduceEq, Int.reduceBNe, Int.reduceBEq, Int.reduceAdd, Int.reduceSub, Int.reduceMul, Int.reduceNeg, Int.reduceLT, Int.reduceLE, Int.reduceToNat, Nat.reduceLT, Nat.reduceAdd, Nat.reduceSub, Nat.reduceMul, Nat.reduceEqDiff, Nat.reduceLeDiff, Nat.reduceBEq, reduceIte, reduceCtorEq, numHp, rdL, fixL, partC, mk_bs]
      rfl
  simp (maxSteps := 4000000) only [push_cast, Int.reduceEq, Int.reduceBNe, Int.reduceBEq, Int.reduceAdd, Int.reduceSub, Int.reduceMul, Int.reduceNeg, Int.reduceLT, Int.reduceLE, Int.reduceToNat, Nat.reduceLT, Nat.reduceAdd, Nat.reduceSub, Nat.reduceMul, Nat.reduceEqDiff, Nat.reduceLeDiff, Nat.reduceBEq, reduceIte, reduceCtorEq, numHp, rdL, fixL, partC, mk_bs, bs_tl]
  have htl : (digQ p most l).s.length ≤ 4096 := by
    unfold digQ
    split
    · have := (takeP_len (fitB (baseQ p.verb)) (most - (sgnQ p l).s.length) (l.drop (sgnQ p l).s.length)).1
      omega
    · simp
  have hR : numberQ p most l = if (digQ p most l).s = [] then (noArg, lackE (digQ p most l).ended, (sgnQ p l).s.length, endE (digQ p most l).ended)
    else if (parseBaseP (baseQ p.verb) (digQ p most l).s).2.1 ≠ 0 then (noArg, 181, (sgnQ p l).s.length + (digQ p most l).s.length, endE (digQ p most l).ended)
    else if p.verb ≠ 100 then (⟨2, 0, (parseBaseP (baseQ p.verb) (digQ p most l).s).1, []⟩, 0, (sgnQ p l).s.length + (digQ p most l).s.length, 0)
    else if 9223372036854775808 < (parseBaseP (baseQ p.verb) (digQ p most l).s).1 ∨ (parseBaseP (baseQ p.verb) (digQ p most l).s).1 = 9223372036854775808 ∧ (sgnQ p l).s ≠ [45] then (noArg, 181, (sgnQ p l).s.length + (digQ p most l).s.length, endE (digQ p most l).ended)
    else (⟨1, if (sgnQ p l).s = [45] then -((parseBaseP (baseQ p.verb) (digQ p most l).s).1 : Int) else (parseBaseP (baseQ p.verb) (digQ p most l).s).1, 0, []⟩, 0, (sgnQ p l).s.length + (digQ p most l).s.length, 0) := rfl
  generalize numberQ p most l = R at hR ⊢
  generalize (sgnQ p l).s = S at hR ⊢
  generalize (digQ p most l).ended = te at hR ⊢
  generalize (digQ p most l).s = T at hR htl ⊢
  refine ⟨fun h => ?_, fun h => ?_⟩
  · refine call_w (lacks_c b (at_ + S.length + T.length) (endE te)) [0, 1] (by simp (maxSteps := 4000000) only [push_cast, Int.reduceEq, Int.reduceBNe, Int.reduceBEq, Int.reduceAdd, Int.reduceSub, Int.reduceMul, Int.reduceNeg, Int.reduceLT, Int.reduceLE, Int.reduceToNat, Nat.reduceLT, Nat.reduceAdd, Nat.reduceSub, Nat.reduceMul, Nat.reduceEqDiff, Nat.reduceLeDiff, Nat.reduceBEq, reduceIte, reduceCtorEq, rdS, rdL, fixL]) ?_
    rintro sv post ⟨rfl, rfl⟩
    rw [lack_end]
    rw [if_pos h] at hR
    subst hR
    subst h
    simp (maxSteps := 4000000) only [push_cast, Int.reduceEq, Int.reduceBNe, Int.reduceBEq, Int.reduceAdd, Int.reduceSub, Int.reduceMul, Int.reduceNeg, Int.reduceLT, Int.reduceLE, Int.reduceToNat, Nat.reduceLT, Nat.reduceAdd, Nat.reduceSub, Nat.reduceMul, Nat.reduceEqDiff, Nat.reduceLeDiff, Nat.reduceBEq, reduceIte, reduceCtorEq, rdS, rdL, fixL]
    exact Fin.w [0, 1] (.tup [.agg (argQ noArg), .i .i64 (lackE te)]) (rdS b (at_ + S.length) (endE te)) (by simp (maxSteps := 4000000) only [push_cast, Int.reduceEq, Int.reduceBNe, Int.reduceBEq, Int.reduceAdd, Int.reduceSub, Int.reduceMul, Int.reduceNeg, Int.reduceLT, Int.reduceLE, Int.reduceToNat, Nat.reduceLT, Nat.reduceAdd, Nat.reduceSub, Nat.reduceMul, Nat.reduceEqDiff, Nat.reduceLeDiff, Nat.reduceBEq, reduceIte, reduceCtorEq, rdS, rdL, fixL, argQ, noArg]) ⟨rfl, rfl⟩
  · rw [if_neg h] at hR
    refine call_w (parseBase_c T (baseQ p.verb) hbq.1 hbq.2 (by omega)) [] (by simp (maxSteps := 4000000) only [push_cast, Int.reduceEq, Int.reduceBNe, Int.reduceBEq, Int.reduceAdd, Int.reduceSub, Int.reduceMul, Int.reduceNeg, Int.reduceLT, Int.reduceLE, Int.reduceToNat, Nat.reduceLT, Nat.reduceAdd, Nat.reduceSub, Nat.reduceMul, Nat.reduceEqDiff, Nat.reduceLeDiff, Nat.reduceBEq, reduceIte, reduceCtorEq]) ?_
    rintro sv post ⟨rfl, rfl⟩
    generalize parseBaseP (baseQ p.verb) T = NN at hR ⊢
    obtain ⟨N, ne, ni⟩ := NN
    simp only at hR
    simp (maxSteps := 4000000) only [push_cast, Int.reduceEq, Int.reduceBNe, Int.reduceBEq, Int.reduceAdd, Int.reduceSub, Int.reduceMul, Int.reduceNeg, Int.reduceLT, Int.reduceLE, Int.reduceToNat, Nat.reduceLT, Nat.reduceAdd, Nat.reduceSub, Nat.reduceMul, Nat.reduceEqDiff, Nat.reduceLeDiff, Nat.reduceBEq, reduceIte, reduceCtorEq, q100, mk_bs, bs_tl]
    refine ⟨fun h1 => ?_, fun h1 => ⟨fun h2 => ?_, fun h2 => ⟨fun h3 => ?_, fun h3 => ⟨fun h4 => ?_, fun h4 => ?_⟩⟩⟩⟩
    · rw [if_pos h1] at hR
      subst hR
      exact Fin.w [0, 1] (.tup [.agg (argQ noArg), .i .i64 181]) (rdS b (at_ + (S.length + T.length)) (endE te)) (by simp (maxSteps := 4000000) only [push_cast, Int.reduceEq, Int.reduceBNe, Int.reduceBEq, Int.reduceAdd, Int.reduceSub, Int.reduceMul, Int.reduceNeg, Int.reduceLT, Int.reduceLE, Int.reduceToNat, Nat.reduceLT, Nat.reduceAdd, Nat.reduceSub, Nat.reduceMul, Nat.reduceEqDiff, Nat.reduceLeDiff, Nat.reduceBEq, reduceIte, reduceCtorEq, rdS, rdL, fixL, argQ, noArg]; omega) ⟨rfl, rfl⟩
    · rw [if_neg (by omega), if_pos h2] at hR
      subst hR
      refine call_w (soft_c b (at_ + S.length + T.length) (endE te)) [0, 1] (by simp (maxSteps := 4000000) only [push_cast, Int.reduceEq, Int.reduceBNe, Int.reduceBEq, Int.reduceAdd, Int.reduceSub, Int.reduceMul, Int.reduceNeg, Int.reduceLT, Int.reduceLE, Int.reduceToNat, Nat.reduceLT, Nat.reduceAdd, Nat.reduceSub, Nat.reduceMul, Nat.reduceEqDiff, Nat.reduceLeDiff, Nat.reduceBEq, reduceIte, reduceCtorEq, rdS, rdL, fixL]) ?_
      rintro sv post ⟨rfl, rfl⟩
      rw [soft_end]
      simp (maxSteps := 4000000) only [push_cast, Int.reduceEq, Int.reduceBNe, Int.reduceBEq, Int.reduceAdd, Int.reduceSub, Int.reduceMul, Int.reduceNeg, Int.reduceLT, Int.reduceLE, Int.reduceToNat, Nat.reduceLT, Nat.reduceAdd, Nat.reduceSub, Nat.reduceMul, Nat.reduceEqDiff, Nat.reduceLeDiff, Nat.reduceBEq, reduceIte, reduceCtorEq, rdS, rdL, fixL]
      exact Fin.w [0, 1] (.tup [.agg (argQ ⟨2, 0, N, []⟩), .i .i64 0]) (rdS b (at_ + (S.length + T.length)) 0) (by simp (maxSteps := 4000000) only [push_cast, Int.reduceEq, Int.reduceBNe, Int.reduceBEq, Int.reduceAdd, Int.reduceSub, Int.reduceMul, Int.reduceNeg, Int.reduceLT, Int.reduceLE, Int.reduceToNat, Nat.reduceLT, Nat.reduceAdd, Nat.reduceSub, Nat.reduceMul, Nat.reduceEqDiff, Nat.reduceLeDiff, Nat.reduceBEq, reduceIte, reduceCtorEq, rdS, rdL, fixL, argQ, noArg]; omega) ⟨rfl, rfl⟩
    · rw [if_neg (by omega), if_neg (by simp [h2]), if_pos (by rcases h3 with q | ⟨q, q2⟩; exact .inl (by omega); exact .inr ⟨by omega, q2⟩)] at hR
      subst hR
      exact Fin.w [0, 1] (.tup [.agg (argQ noArg), .i .i64 181]) (rdS b (at_ + (S.length + T.length)) (endE te)) (by simp (maxSteps := 4000000) only [push_cast, Int.reduceEq, Int.reduceBNe, Int.reduceBEq, Int.reduceAdd, Int.reduceSub, Int.reduceMul, Int.reduceNeg, Int.reduceLT, Int.reduceLE, Int.reduceToNat, Nat.reduceLT, Nat.reduceAdd, Nat.reduceSub, Nat.reduceMul, Nat.reduceEqDiff, Nat.reduceLeDiff, Nat.reduceBEq, reduceIte, reduceCtorEq, rdS, rdL, fixL, argQ, noArg]; omega) ⟨rfl, rfl⟩
    · have hn3 : ¬ (9223372036854775808 < N ∨ N = 9223372036854775808 ∧ S ≠ [45]) := by
        rintro (q | ⟨q, q2⟩)
        · omega
        · exact q2 h4
      rw [if_neg (by omega), if_neg (by simp [h2]), if_neg hn3, if_pos h4] at hR
      subst hR
      refine call_w (soft_c b (at_ + S.length + T.length) (endE te)) [0, 1] (by simp (maxSteps := 4000000) only [push_cast, Int.reduceEq, Int.reduceBNe, Int.reduceBEq, Int.reduceAdd, Int.reduceSub, Int.reduceMul, Int.reduceNeg, Int.reduceLT, Int.reduceLE, Int.reduceToNat, Nat.reduceLT, Nat.reduceAdd, Nat.reduceSub, Nat.reduceMul, Nat.reduceEqDiff, Nat.reduceLeDiff, Nat.reduceBEq, reduceIte, reduceCtorEq, rdS, rdL, fixL]) ?_
      rintro sv post ⟨rfl, rfl⟩
      rw [soft_end]
      simp (maxSteps := 4000000) only [push_cast, Int.reduceEq, Int.reduceBNe, Int.reduceBEq, Int.reduceAdd, Int.reduceSub, Int.reduceMul, Int.reduceNeg, Int.reduceLT, Int.reduceLE, Int.reduceToNat, Nat.reduceLT, Nat.reduceAdd, Nat.reduceSub, Nat.reduceMul, Nat.reduceEqDiff, Nat.reduceLeDiff, Nat.reduceBEq, reduceIte, reduceCtorEq, rdS, rdL, fixL]
      have hneg : IntKind.i64.wrap (IntKind.u64.wrap (0 - (N : Int))) = -(N : Int) := by
        rw [IntKind.wrap_u64]
        have : N ≤ 9223372036854775808 := by omega
        rw [IntKind.wrap_i64]
        omega
      exact Fin.w [0, 1] (.tup [.agg (argQ ⟨1, -(N : Int), 0, []⟩), .i .i64 0]) (rdS b (at_ + (S.length + T.length)) 0) (by simp (maxSteps := 4000000) only [push_cast, Int.reduceEq, Int.reduceBNe, Int.reduceBEq, Int.reduceAdd, Int.reduceSub, Int.reduceMul, Int.reduceNeg, Int.reduceLT, Int.reduceLE, Int.reduceToNat, Nat.reduceLT, Nat.reduceAdd, Nat.reduceSub, Nat.reduceMul, Nat.reduceEqDiff, Nat.reduceLeDiff, Nat.reduceBEq, reduceIte, reduceCtorEq, rdS, rdL, fixL, argQ, noArg]; exact ⟨hneg.symm, by omega⟩) ⟨rfl, rfl⟩
    · have hn3 : ¬ (9223372036854775808 < N ∨ N = 9223372036854775808 ∧ S ≠ [45]) := by
        rintro (q | ⟨q, q2⟩)
        · omega
        · rcases h3.2 with q3 | q3
          · omega
          · exact h4 q3
      rw [if_neg (by omega), if_neg (by simp [h2]), if_neg hn3, if_neg h4] at hR
      subst hR
      refine call_w (soft_c b (at_ + S.length + T.length) (endE te)) [0, 1] (by simp (maxSteps := 4000000) only [push_cast, Int.reduceEq, Int.reduceBNe, Int.reduceBEq, Int.reduceAdd, Int.reduceSub, Int.reduceMul, Int.reduceNeg, Int.reduceLT, Int.reduceLE, Int.reduceToNat, Nat.reduceLT, Nat.reduceAdd, Nat.reduceSub, Nat.reduceMul, Nat.reduceEqDiff, Nat.reduceLeDiff, Nat.reduceBEq, reduceIte, reduceCtorEq, rdS, rdL, fixL]) ?_
      rintro sv post ⟨rfl, rfl⟩
      rw [soft_end]
      simp (maxSteps := 4000000) only [push_cast, Int.reduceEq, Int.reduceBNe, Int.reduceBEq, Int.reduceAdd, Int.reduceSub, Int.reduceMul, Int.reduceNeg, Int.reduceLT, Int.reduceLE, Int.reduceToNat, Nat.reduceLT, Nat.reduceAdd, Nat.reduceSub, Nat.reduceMul, Nat.reduceEqDiff, Nat.reduceLeDiff, Nat.reduceBEq, reduceIte, reduceCtorEq, rdS, rdL, fixL]
      have hlt : (N : Int) < 9223372036854775808 := by
        rcases h3.2 with q3 | q3
        · omega
        · exact absurd q3 h4
      exact Fin.w [0, 1] (.tup [.agg (argQ ⟨1, N, 0, []⟩), .i .i64 0]) (rdS b (at_ + (S.length + T.length)) 0) (by simp (maxSteps := 4000000) only [push_cast, Int.reduceEq, Int.reduceBNe, Int.reduceBEq, Int.reduceAdd, Int.reduceSub, Int.reduceMul, Int.reduceNeg, Int.reduceLT, Int.reduceLE, Int.reduceToNat, Nat.reduceLT, Nat.reduceAdd, Nat.reduceSub, Nat.reduceMul, Nat.reduceEqDiff, Nat.reduceLeDiff, Nat.reduceBEq, reduceIte, reduceCtorEq, rdS, rdL, fixL, argQ, noArg]; exact ⟨(wrap64 (n := (N : Int)) (by omega) (by omega)).symm, by omega⟩) ⟨rfl, rfl⟩
end Go.Proofs.YtmciepkhpocafaaGreat
/- Scan: a part. -/
namespace Go.Proofs.YtmciepkhpocafaaGreat
open Go Go.Eng
set_option maxHeartbeats 4000000
set_option linter.unusedSimpArgs false
set_option linter.unusedVariables false
set_option maxRecDepth 100000

theorem match_c (p : PartP) (c : UInt8) : Contract Tryz.prog 51 ⟨[], [(0, 102, (partC p))], [], [], 1, 1, []⟩ [.i .u8 (c.toNat : Int), .ptr 0 0] (fun sv post => sv = .b (c == p.c) ∧ post = ⟨[], [(0, 102, (partC p))], [], [], 1, 1, []⟩) := by
  refine contract_ev Γok Tryz.func51 rfl rfl [] ?_
  simp (maxSteps := 4000000) only [push_cast, Int.reduceEq, Int.reduceBNe, Int.reduceBEq, Int.reduceAdd, Int.reduceSub, Int.reduceMul, Int.reduceNeg, Int.reduceLT, Int.reduceLE, Int.reduceToNat, Nat.reduceLT, Nat.reduceAdd, Nat.reduceSub, Nat.reduceMul, Nat.reduceEqDiff, Nat.reduceLeDiff, Nat.reduceBEq, reduceIte, reduceCtorEq, Tryz.f51, partC]
  have e : ((c.toNat : Int) == (p.c.toNat : Int)) = (c == p.c) := by
    rw [Bool.eq_iff_iff, beq_iff_eq, beq_iff_eq]
    exact u8iY c p.c
  rw [e]
  exact Fin.w [0] (.b (c == p.c)) _ (by simp (maxSteps := 4000000) only [push_cast, Int.reduceEq, Int.reduceBNe, Int.reduceBEq, Int.reduceAdd, Int.reduceSub, Int.reduceMul, Int.reduceNeg, Int.reduceLT, Int.reduceLE, Int.reduceToNat, Nat.reduceLT, Nat.reduceAdd, Nat.reduceSub, Nat.reduceMul, Nat.reduceEqDiff, Nat.reduceLeDiff, Nat.reduceBEq, reduceIte, reduceCtorEq]) ⟨rfl, rfl⟩
theorem anyB_c (c : UInt8) : Contract Tryz.prog 55 nilSS [.i .u8 (c.toNat : Int)] (fun sv post => sv = .b true ∧ post = nilSS) := by
  refine contract_ev Γok Tryz.func55 rfl rfl [] ?_
  simp (maxSteps := 4000000) only [push_cast, Int.reduceEq, Int.reduceBNe, Int.reduceBEq, Int.reduceAdd, Int.reduceSub, Int.reduceMul, Int.reduceNeg, Int.reduceLT, Int.reduceLE, Int.reduceToNat, Nat.reduceLT, Nat.reduceAdd, Nat.reduceSub, Nat.reduceMul, Nat.reduceEqDiff, Nat.reduceLeDiff, Nat.reduceBEq, reduceIte, reduceCtorEq, Tryz.f55]
  exact Fin.w [] (.b true) _ (by simp (maxSteps := 4000000) only [push_cast, Int.reduceEq, Int.reduceBNe, Int.reduceBEq, Int.reduceAdd, Int.reduceSub, Int.reduceMul, Int.reduceNeg, Int.reduceLT, Int.reduceLE, Int.reduceToNat, Nat.reduceLT, Nat.reduceAdd, Nat.reduceSub, Nat.reduceMul, Nat.reduceEqDiff, Nat.reduceLeDiff, Nat.reduceBEq, reduceIte, reduceCtorEq]) ⟨rfl, rfl⟩
theorem full_c (c : UInt8) : Contract Tryz.prog 56 nilSS [.i .u8 (c.toNat : Int)] (fun sv post => sv = .b (!isBlank c) ∧ post = nilSS) := by
  refine contract_ev Γok Tryz.func56 rfl rfl [] ?_
  simp (maxSteps := 4000000) only [push_cast, Int.reduceEq, Int.reduceBNe, Int.reduceBEq, Int.reduceAdd, Int.reduceSub, Int.reduceMul, Int.reduceNeg, Int.reduceLT, Int.reduceLE, Int.reduceToNat, Nat.reduceLT, Nat.reduceAdd, Nat.reduceSub, Nat.reduceMul, Nat.reduceEqDiff, Nat.reduceLeDiff, Nat.reduceBEq, reduceIte, reduceCtorEq, Tryz.f56]
  refine call_w (blank_c c) [] (by simp (maxSteps := 4000000) only [push_cast, Int.reduceEq, Int.reduceBNe, Int.reduceBEq, Int.reduceAdd, Int.reduceSub, Int.reduceMul, Int.reduceNeg, Int.reduceLT, Int.reduceLE, Int.reduceToNat, Nat.reduceLT, Nat.reduceAdd, Nat.reduceSub, Nat.reduceMul, Nat.reduceEqDiff, Nat.reduceLeDiff, Nat.reduceBEq, reduceIte, reduceCtorEq]) ?_
  rintro sv post ⟨rfl, rfl⟩
  simp (maxSteps := 4000000) only [push_cast, Int.reduceEq, Int.reduceBNe, Int.reduceBEq, Int.reduceAdd, Int.reduceSub, Int.reduceMul, Int.reduceNeg, Int.reduceLT, Int.reduceLE, Int.reduceToNat, Nat.reduceLT, Nat.reduceAdd, Nat.reduceSub, Nat.reduceMul, Nat.reduceEqDiff, Nat.reduceLeDiff, Nat.reduceBEq, reduceIte, reduceCtorEq]
  exact Fin.w [] (.b (!isBlank c)) _ (by simp (maxSteps := 4000000) only [push_cast, Int.reduceEq, Int.reduceBNe, Int.reduceBEq, Int.reduceAdd, Int.reduceSub, Int.reduceMul, Int.reduceNeg, Int.reduceLT, Int.reduceLE, Int.reduceToNat, Nat.reduceLT, Nat.reduceAdd, Nat.reduceSub, Nat.reduceMul, Nat.reduceEqDiff, Nat.reduceLeDiff, Nat.reduceBEq, reduceIte, reduceCtorEq]) ⟨rfl, rfl⟩

def mostQ (p : PartP) : Nat := if p.width = 0 then 4096 else p.width
def wantQ (p : PartP) : Nat := if p.width = 0 then 1 else p.width
def oneQ (p : PartP) (l : List UInt8) : AV × Int × Nat × Int :=
  if p.verb = 0 then
    let T := takeP (fun c => c == p.c) 1 l
    if T.s = [] then (noArg, lackE T.ended, 0, endE T.ended) else (noArg, 0, T.s.length, endE T.ended)
  else if p.verb = 32 then (noArg, 0, skipP l, 0)
  else if p.verb = 99 then
    let T := takeP (fun _ => true) (wantQ p) l
    if T.s.length < wantQ p then (noArg, lackE T.ended, T.s.length, endE T.ended)
    else if p.width = 0 then (⟨3, 0, (((T.s[0]?).getD 0).toNat : Int), []⟩, 0, T.s.length, endE T.ended) else (⟨4, 0, 0, T.s⟩, 0, T.s.length, endE T.ended)
  else if skipP l = l.length then (noArg, 111, skipP l, 111)
  else if p.verb = 115 then
    let T := takeP (fun c => !isBlank c) (mostQ p) (l.drop (skipP l))
    if T.s = [] then (noArg, lackE T.ended, skipP l, endE T.ended) else (⟨4, 0, 0, T.s⟩, 0, skipP l + T.s.length, 0)
  else
    let R := numberQ p (mostQ p) (l.drop (skipP l))
    (R.1, R.2.1, skipP l + R.2.2.1, R.2.2.2)
theorem one_q (p : PartP) (hw : p.width ≤ 4096) (b : List UInt8) (at_ : Nat) (e : Int) (hb : b.length ≤ 140737488355328) (hat : at_ ≤ b.length) :
    Contract Tryz.prog 31 (rdS b at_ e) [.ptr 1 0, .agg (partC p)] (isOneQ (oneQ p (b.drop at_)) b at_) := by
  refine contract_of Γok Tryz.func31 rfl rfl (stop := []) ?_
  simp only [Tryz.f31]
  generalize hl : b.drop at_ = l
  have hll : l.length = b.length - at_ := by rw [← hl, List.length_drop]
  refine CodeOK.seq (evCode_sound Γok _ _ _ ?_)
  simp (maxSteps := 4000000) only [push_cast, Int.reduceEq, Int.reduceBNe, Int.reduceBEq, Int.reduceAdd, Int.reduceSub, Int.reduceMul, Int.reduceNeg, Int.reduceLT, Int.reduceLE, Int.reduceToNat, Nat.reduceLT, Nat.reduceAdd, Nat.reduceSub, Nat.reduceMul, Nat.reduceEqDiff, Nat.reduceLeDiff, Nat.reduceBEq, reduceIte, reduceCtorEq, rdS, rdL, fixL, partC]
  refine CodeOK.seq (evCode_sound Γok _ _ _ ?_)
  simp (maxSteps := 4000000) only [push_cast, Int.reduceEq, Int.reduceBNe, Int.reduceBEq, Int.reduceAdd, Int.reduceSub, Int.reduceMul, Int.reduceNeg, Int.reduceLT, Int.reduceLE, Int.reduceToNat, Nat.reduceLT, Nat.reduceAdd, Nat.reduceSub, Nat.reduceMul, Nat.reduceEqDiff, Nat.reduceLeDiff, Nat.reduceBEq, reduceIte, reduceCtorEq, mk_bs]
  refine CodeOK.seq (evCode_sound Γok _ _ _ ?_)
  simp (maxSteps := 4000000) only [push_cast, Int.reduceEq, Int.reduceBNe, Int.reduceBEq, Int.reduceAdd, Int.reduceSub, Int.reduceMul, Int.reduceNeg, Int.reduceLT, Int.reduceLE, Int.reduceToNat, Nat.reduceLT, Nat.reduceAdd, Nat.reduceSub, Nat.reduceMul, Nat.reduceEqDiff, Nat.reduceLeDiff, Nat.reduceBEq, reduceIte, reduceCtorEq, mk_bs, q0, u32, q99, bs_size]
  have fin : ∀ (A : AV) (x : Int) (k : Nat) (z : Int), oneQ p l = (A, x, k, z) → isOneQ (oneQ p l) b at_ (.tup [.agg (argQ A), .i .i64 x]) (rdS b (at_ + k) z) := fun A x k z h => by rw [h]; exact ⟨rfl, rfl⟩
  refine ⟨fun h0 => ?_, fun h0 => ⟨fun h1 => ?_, fun h1 => ⟨fun h2 => ?_, fun h2 => ?_⟩⟩⟩
  · have hq : oneQ p l = if (takeP (fun c => c == p.c) 1 l).s = [] then (noArg, lackE (takeP (fun c => c == p.c) 1 l).ended, 0, endE (takeP (fun c => c == p.c) 1 l).ended) else (noArg, 0, (takeP (fun c => c == p.c) 1 l).s.length, endE (takeP (fun c => c == p.c) 1 l).ended) := if_pos h0
    refine call_w (takeC_c p (fun c => c == p.c) 51 (match_c p) 1 (by omega) b at_ 0 hb hat) [0, 1, 2] (by simp (maxSteps := 4000000) only [push_cast, Int.reduceEq, Int.reduceBNe, Int.reduceBEq, Int.reduceAdd, Int.reduceSub, Int.reduceMul, Int.reduceNeg, Int.reduceLT, Int.reduceLE, Int.reduceToNat, Nat.reduceLT, Nat.reduceAdd, Nat.reduceSub, Nat.reduceMul, Nat.reduceEqDiff, Nat.reduceLeDiff, Nat.reduceBEq, reduceIte, reduceCtorEq, rdCS, rdL, fixL, partC]) ?_
    rintro sv post ⟨rfl, rfl⟩
    rw [hl]
    generalize takeP (fun c => c == p.c) 1 l = T at hq ⊢
    simp (maxSteps := 4000000) only [push_cast, Int.reduceEq, Int.reduceBNe, Int.reduceBEq, Int.reduceAdd, Int.reduceSub, Int.reduceMul, Int.reduceNeg, Int.reduceLT, Int.reduceLE, Int.reduceToNat, Nat.reduceLT, Nat.reduceAdd, Nat.reduceSub, Nat.reduceMul, Nat.reduceEqDiff, Nat.reduceLeDiff, Nat.reduceBEq, reduceIte, reduceCtorEq, rdCS, rdL, fixL, partC, bs_tl]
    refine ⟨fun h4 => ?_, fun h4 => ?_⟩
    · rw [if_pos h4] at hq
      refine call_w (lacks_c b (at_ + T.s.length) (endE T.ended)) [0, 1] (by simp (maxSteps := 4000000) only [push_cast, Int.reduceEq, Int.reduceBNe, Int.reduceBEq, Int.reduceAdd, Int.reduceSub, Int.reduceMul, Int.reduceNeg, Int.reduceLT, Int.reduceLE, Int.reduceToNat, Nat.reduceLT, Nat.reduceAdd, Nat.reduceSub, Nat.reduceMul, Nat.reduceEqDiff, Nat.reduceLeDiff, Nat.reduceBEq, reduceIte, reduceCtorEq, rdS, rdL, fixL]) ?_
      rintro sv post ⟨rfl, rfl⟩
      rw [lack_end]
      simp (maxSteps := 4000000) only [push_cast, Int.reduceEq, Int.reduceBNe, Int.reduceBEq, Int.reduceAdd, Int.reduceSub, Int.reduceMul, Int.reduceNeg, Int.reduceLT, Int.reduceLE, Int.reduceToNat, Nat.reduceLT, Nat.reduceAdd, Nat.reduceSub, Nat.reduceMul, Nat.reduceEqDiff, Nat.reduceLeDiff, Nat.reduceBEq, reduceIte, reduceCtorEq, rdS, rdL, fixL]
      exact Fin.w [0, 1] _ (rdS b (at_ + 0) (endE T.ended)) (by simp (maxSteps := 4000000) only [push_cast, Int.reduceEq, Int.reduceBNe, Int.reduceBEq, Int.reduceAdd, Int.reduceSub, Int.reduceMul, Int.reduceNeg, Int.reduceLT, Int.reduceLE, Int.reduceToNat, Nat.reduceLT, Nat.reduceAdd, Nat.reduceSub, Nat.reduceMul, Nat.reduceEqDiff, Nat.reduceLeDiff, Nat.reduceBEq, reduceIte, reduceCtorEq, rdS, rdL, fixL, argQ, noArg, h4]; exact ⟨rfl, by simp⟩) (fin noArg (lackE T.ended) 0 _ hq)
    · rw [if_neg h4] at hq
      exact Fin.w [0, 1] _ (rdS b (at_ + T.s.length) (endE T.ended)) (by simp (maxSteps := 4000000) only [push_cast, Int.reduceEq, Int.reduceBNe, Int.reduceBEq, Int.reduceAdd, Int.reduceSub, Int.reduceMul, Int.reduceNeg, Int.reduceLT, Int.reduceLE, Int.reduceToNat, Nat.reduceLT, Nat.reduceAdd, Nat.reduceSub, Nat.reduceMul, Nat.reduceEqDiff, Nat.reduceLeDiff, Nat.reduceBEq, reduceIte, reduceCtorEq, rdS, rdL, fixL, argQ, noArg]; rfl) (fin noArg 0 _ _ hq)
  · have hq : oneQ p l = (noArg, 0, skipP l, 0) := by unfold oneQ; rw [if_neg h0, if_pos h1]
    refine call_w (blanks_c b at_ 0 hb hat) [0, 1] (by simp (maxSteps := 4000000) only [push_cast, Int.reduceEq, Int.reduceBNe, Int.reduceBEq, Int.reduceAdd, Int.reduceSub, Int.reduceMul, Int.reduceNeg, Int.reduceLT, Int.reduceLE, Int.reduceToNat, Nat.reduceLT, Nat.reduceAdd, Nat.reduceSub, Nat.reduceMul, Nat.reduceEqDiff, Nat.reduceLeDiff, Nat.reduceBEq, reduceIte, reduceCtorEq, rdS, rdL, fixL]) ?_
    rintro sv post ⟨rfl, rfl⟩
    rw [hl]
    simp (maxSteps := 4000000) only [push_cast, Int.reduceEq, Int.reduceBNe, Int.reduceBEq, Int.reduceAdd, Int.reduceSub, Int.reduceMul, Int.reduceNeg, Int.reduceLT, Int.reduceLE, Int.reduceToNat, Nat.reduceLT, Nat.reduceAdd, Nat.reduceSub, Nat.reduceMul, Nat.reduceEqDiff, Nat.reduceLeDiff, Nat.reduceBEq, reduceIte, reduceCtorEq, rdS, rdL, fixL]
    refine call_w (soft_c b (at_ + skipP l) (endE (decide (skipP l = l.length)))) [0, 1] (by simp (maxSteps := 4000000) only [push_cast, Int.reduceEq, Int.reduceBNe, Int.reduceBEq, Int.reduceAdd, Int.reduceSub, Int.reduceMul, Int.reduceNeg, Int.reduceLT, Int.reduceLE, Int.reduceToNat, Nat.reduceLT, Nat.reduceAdd, Nat.reduceSub, Nat.reduceMul, Nat.reduceEqDiff, Nat.reduceLeDiff, Nat.reduceBEq, reduceIte, reduceCtorEq, rdS, rdL, fixL]) ?_
    rintro sv post ⟨rfl, rfl⟩
    rw [soft_end]
    simp (maxSteps := 4000000) only [push_cast, Int.reduceEq, Int.reduceBNe, Int.reduceBEq, Int.reduceAdd, Int.reduceSub, Int.reduceMul, Int.reduceNeg, Int.reduceLT, Int.reduceLE, Int.reduceToNat, Nat.reduceLT, Nat.reduceAdd, Nat.reduceSub, Nat.reduceMul, Nat.reduceEqDiff, Nat.reduceLeDiff, Nat.reduceBEq, reduceIte, reduceCtorEq, rdS, rdL, fixL]
    exact Fin.w [0, 1] _ (rdS b (at_ + skipP l) 0) (by simp (maxSteps := 4000000) only [push_cast, Int.reduceEq, Int.reduceBNe, Int.reduceBEq, Int.reduceAdd, Int.reduceSub, Int.reduceMul, Int.reduceNeg, Int.reduceLT, Int.reduceLE, Int.reduceToNat, Nat.reduceLT, Nat.reduceAdd, Nat.reduceSub, Nat.reduceMul, Nat.reduceEqDiff, Nat.reduceLeDiff, Nat.reduceBEq, reduceIte, reduceCtorEq, rdS, rdL, fixL, argQ, noArg]; rfl) (fin noArg 0 _ _ hq)
  · have hmax : maxI (p.width : Int) 1 = (wantQ p : Int) := by unfold maxI wantQ; split <;> split <;> omega
    have hwant : 1 ≤ wantQ p ∧ wantQ p ≤ 4096 := by unfold wantQ; split <;> omega
    have hq : oneQ p l = if (takeP (fun _ => true) (wantQ p) l).s.length < wantQ p then (noArg, lackE (takeP (fun _ => true) (wantQ p) l).ended, (takeP (fun _ => true) (wantQ p) l).s.length, endE (takeP (fun _ => true) (wantQ p) l).ended)
      else if p.width = 0 then (⟨3, 0, ((((takeP (fun _ => true) (wantQ p) l).s[0]?).getD 0).toNat : Int), []⟩, 0, (takeP (fun _ => true) (wantQ p) l).s.length, endE (takeP (fun _ => true) (wantQ p) l).ended) else (⟨4, 0, 0, (takeP (fun _ => true) (wantQ p) l).s⟩, 0, (takeP (fun _ => true) (wantQ p) l).s.length, endE (takeP (fun _ => true) (wantQ p) l).ended) := by
      unfold oneQ
      rw [if_neg h0, if_neg h1, if_pos h2]
    rw [hmax]
    refine call_w (takeA_c (fun _ => true) 55 anyB_c (wantQ p) (by omega) b at_ 0 hb hat) [0, 1] (by simp (maxSteps := 4000000) only [push_cast, Int.reduceEq, Int.reduceBNe, Int.reduceBEq, Int.reduceAdd, Int.reduceSub, Int.reduceMul, Int.reduceNeg, Int.reduceLT, Int.reduceLE, Int.reduceToNat, Nat.reduceLT, Nat.reduceAdd, Nat.reduceSub, Nat.reduceMul, Nat.reduceEqDiff, Nat.reduceLeDiff, Nat.reduceBEq, reduceIte, reduceCtorEq, rdS, rdL, fixL]) ?_
    rintro sv post ⟨rfl, rfl⟩
    rw [hl, if_neg (show ¬ wantQ p = 0 by omega)]
    generalize takeP (fun _ => true) (wantQ p) l = T at hq ⊢
    simp (maxSteps := 4000000) only [push_cast, Int.reduceEq, Int.reduceBNe, Int.reduceBEq, Int.reduceAdd, Int.reduceSub, Int.reduceMul, Int.reduceNeg, Int.reduceLT, Int.reduceLE, Int.reduceToNat, Nat.reduceLT, Nat.reduceAdd, Nat.reduceSub, Nat.reduceMul, Nat.reduceEqDiff, Nat.reduceLeDiff, Nat.reduceBEq, reduceIte, reduceCtorEq, rdS, rdL, fixL, bs_size, bs_at]
    refine ⟨fun h4 => ?_, fun h4 => ⟨fun h5 => ?_, fun h5 => ?_⟩⟩
    · rw [if_pos (by omega)] at hq
      refine call_w (lacks_c b (at_ + T.s.length) (endE T.ended)) [0, 1] (by simp (maxSteps := 4000000) only [push_cast, Int.reduceEq, Int.reduceBNe, Int.reduceBEq, Int.reduceAdd, Int.reduceSub, Int.reduceMul, Int.reduceNeg, Int.reduceLT, Int.reduceLE, Int.reduceToNat, Nat.reduceLT, Nat.reduceAdd, Nat.reduceSub, Nat.reduceMul, Nat.reduceEqDiff, Nat.reduceLeDiff, Nat.reduceBEq, reduceIte, reduceCtorEq, rdS, rdL, fixL]) ?_
      rintro sv post ⟨rfl, rfl⟩
      rw [lack_end]
      simp (maxSteps := 4000000) only [push_cast, Int.reduceEq, Int.reduceBNe, Int.reduceBEq, Int.reduceAdd, Int.reduceSub, Int.reduceMul, Int.reduceNeg, Int.reduceLT, Int.reduceLE, Int.reduceToNat, Nat.reduceLT, Nat.reduceAdd, Nat.reduceSub, Nat.reduceMul, Nat.reduceEqDiff, Nat.reduceLeDiff, Nat.reduceBEq, reduceIte, reduceCtorEq, rdS, rdL, fixL]
      exact Fin.w [0, 1] _ (rdS b (at_ + T.s.length) (endE T.ended)) (by simp (maxSteps := 4000000) only [push_cast, Int.reduceEq, Int.reduceBNe, Int.reduceBEq, Int.reduceAdd, Int.reduceSub, Int.reduceMul, Int.reduceNeg, Int.reduceLT, Int.reduceLE, Int.reduceToNat, Nat.reduceLT, Nat.reduceAdd, Nat.reduceSub, Nat.reduceMul, Nat.reduceEqDiff, Nat.reduceLeDiff, Nat.reduceBEq, reduceIte, reduceCtorEq, rdS, rdL, fixL, argQ, noArg]; rfl) (fin noArg _ _ _ hq)
    · rw [if_neg (by omega), if_pos (by omega)] at hq
      have hu := u8_lt ((T.s[0]?).getD 0)
      have hwu : IntKind.u64.wrap (((T.s[0]?).getD 0).toNat : Int) = (((T.s[0]?).getD 0).toNat : Int) := by rw [IntKind.wrap_u64]; omega
      rw [hwu]
      exact ⟨by omega, Fin.w [0, 1] _ (rdS b (at_ + T.s.length) (endE T.ended)) (by simp (maxSteps := 4000000) only [push_cast, Int.reduceEq, Int.reduceBNe, Int.reduceBEq, Int.reduceAdd, Int.reduceSub, Int.reduceMul, Int.reduceNeg, Int.reduceLT, Int.reduceLE, Int.reduceToNat, Nat.reduceLT, Nat.reduceAdd, Nat.reduceSub, Nat.reduceMul, Nat.reduceEqDiff, Nat.reduceLeDiff, Nat.reduceBEq, reduceIte, reduceCtorEq, rdS, rdL, fixL, argQ, noArg]; rfl) (fin ⟨3, 0, (((T.s[0]?).getD 0).toNat : Int), []⟩ _ _ _ hq)⟩
    · rw [if_neg (by omega), if_neg (by omega)] at hq
      exact Fin.w [0, 1] _ (rdS b (at_ + T.s.length) (endE T.ended)) (by simp (maxSteps := 4000000) only [push_cast, Int.reduceEq, Int.reduceBNe, Int.reduceBEq, Int.reduceAdd, Int.reduceSub, Int.reduceMul, Int.reduceNeg, Int.reduceLT, Int.reduceLE, Int.reduceToNat, Nat.reduceLT, Nat.reduceAdd, Nat.reduceSub, Nat.reduceMul, Nat.reduceEqDiff, Nat.reduceLeDiff, Nat.reduceBEq, reduceIte, reduceCtorEq, rdS, rdL, fixL, argQ, noArg]) (fin ⟨4, 0, 0, T.s⟩ _ _ _ hq)
  · have hq : oneQ p l = if skipP l = l.length then (noArg, 111, skipP l, 111) else if p.verb = 115 then
        (if (takeP (fun c => !isBlank c) (mostQ p) (l.drop (skipP l))).s = [] then (noArg, lackE (takeP (fun c => !isBlank c) (mostQ p) (l.drop (skipP l))).ended, skipP l, endE (takeP (fun c => !isBlank c) (mostQ p) (l.drop (skipP l))).ended) else (⟨4, 0, 0, (takeP (fun c => !isBlank c) (mostQ p) (l.drop (skipP l))).s⟩, 0, skipP l + (takeP (fun c => !isBlank c) (mostQ p) (l.drop (skipP l))).s.length, 0))
      else ((numberQ p (mostQ p) (l.drop (skipP l))).1, (numberQ p (mostQ p) (l.drop (skipP l))).2.1, skipP l + (numberQ p (mostQ p) (l.drop (skipP l))).2.2.1, (numberQ p (mostQ p) (l.drop (skipP l))).2.2.2) := by
      unfold oneQ
      rw [if_neg h0, if_neg h1, if_neg h2]
    have hsk := skipP_le l
    have hdrop : b.drop (at_ + skipP l) = l.drop (skipP l) := by rw [← List.drop_drop, hl]
    have hmost : 1 ≤ mostQ p ∧ mostQ p ≤ 4096 := by unfold mostQ; split <;> omega
    refine CodeOK.seq (evCode_sound Γok _ _ _ ?_)
    simp (maxSteps := 4000000) only [push_cast, Int.reduceEq, Int.reduceBNe, Int.reduceBEq, Int.reduceAdd, Int.reduceSub, Int.reduceMul, Int.reduceNeg, Int.reduceLT, Int.reduceLE, Int.reduceToNat, Nat.reduceLT, Nat.reduceAdd, Nat.reduceSub, Nat.reduceMul, Nat.reduceEqDiff, Nat.reduceLeDiff, Nat.reduceBEq, reduceIte, reduceCtorEq]
    refine call_w (blanks_c b at_ 0 hb hat) [0, 1] (by simp (maxSteps := 4000000) only [push_cast, Int.reduceEq, Int.reduceBNe, Int.reduceBEq, Int.reduceAdd, Int.reduceSub, Int.reduceMul, Int.reduceNeg, Int.reduceLT, Int.reduceLE, Int.reduceToNat, Nat.reduceLT, Nat.reduceAdd, Nat.reduceSub, Nat.reduceMul, Nat.reduceEqDiff, Nat.reduceLeDiff, Nat.reduceBEq, reduceIte, reduceCtorEq, rdS, rdL, fixL]) ?_
    rintro sv post ⟨rfl, rfl⟩
    rw [hl]
    by_cases h4 : skipP l = l.length
    · rw [if_pos h4] at hq
      have he : endE (decide (skipP l = l.length)) = 111 := by rw [decide_eq_true h4]; rfl
      rw [he]
      simp (maxSteps := 4000000) only [push_cast, Int.reduceEq, Int.reduceBNe, Int.reduceBEq, Int.reduceAdd, Int.reduceSub, Int.reduceMul, Int.reduceNeg, Int.reduceLT, Int.reduceLE, Int.reduceToNat, Nat.reduceLT, Nat.reduceAdd, Nat.reduceSub, Nat.reduceMul, Nat.reduceEqDiff, Nat.reduceLeDiff, Nat.reduceBEq, reduceIte, reduceCtorEq, rdS, rdL, fixL]
      refine (region_plan rfl Γok mixed (.pure 0 (.pure 1 (.pure 2 (.pure 3 (.pure 4 (.eff (.cons 5 [4] (.pure 6 .done) .nil))))))) 95 rfl (by kernel_rfl) ?_)
      simp (maxSteps := 4000000) only [push_cast, Int.reduceEq, Int.reduceBNe, Int.reduceBEq, Int.reduceAdd, Int.reduceSub, Int.reduceMul, Int.reduceNeg, Int.reduceLT, Int.reduceLE, Int.reduceToNat, Nat.reduceLT, Nat.reduceAdd, Nat.reduceSub, Nat.reduceMul, Nat.reduceEqDiff, Nat.reduceLeDiff, Nat.reduceBEq, reduceIte, reduceCtorEq, mk_bs]
      exact Fin.w [0, 1] _ (rdS b (at_ + skipP l) 111) (by simp (maxSteps := 4000000) only [push_cast, Int.reduceEq, Int.reduceBNe, Int.reduceBEq, Int.reduceAdd, Int.reduceSub, Int.reduceMul, Int.reduceNeg, Int.reduceLT, Int.reduceLE, Int.reduceToNat, Nat.reduceLT, Nat.reduceAdd, Nat.reduceSub, Nat.reduceMul, Nat.reduceEqDiff, Nat.reduceLeDiff, Nat.reduceBEq, reduceIte, reduceCtorEq, rdS, rdL, fixL, argQ, noArg]) (fin noArg 111 _ _ hq)
    rw [if_neg h4] at hq
    have he : endE (decide (skipP l = l.length)) = 0 := by rw [decide_eq_false h4]; rfl
    rw [he]
    simp (maxSteps := 4000000) only [push_cast, Int.reduceEq, Int.reduceBNe, Int.reduceBEq, Int.reduceAdd, Int.reduceSub, Int.reduceMul, Int.reduceNeg, Int.reduceLT, Int.reduceLE, Int.reduceToNat, Nat.reduceLT, Nat.reduceAdd, Nat.reduceSub, Nat.reduceMul, Nat.reduceEqDiff, Nat.reduceLeDiff, Nat.reduceBEq, reduceIte, reduceCtorEq, rdS, rdL, fixL]
    refine CodeOK.seq (evCode_sound Γok _ _ _ ?_)
    simp (maxSteps := 4000000) only [push_cast, Int.reduceEq, Int.reduceBNe, Int.reduceBEq, Int.reduceAdd, Int.reduceSub, Int.reduceMul, Int.reduceNeg, Int.reduceLT, Int.reduceLE, Int.reduceToNat, Nat.reduceLT, Nat.reduceAdd, Nat.reduceSub, Nat.reduceMul, Nat.reduceEqDiff, Nat.reduceLeDiff, Nat.reduceBEq, reduceIte, reduceCtorEq]
    refine code_cut ⟨[.ptr 1 0, .any, .any, .ptr 2 0, .ptr 3 0, .any, .any, .any, .i .i64 (mostQ p)] ++ List.replicate 86 .any, numHp p b (at_ + skipP l) 0, [], [], 4, 2, []⟩ (evCode_sound Γok _ _ _ ?_) ?_
    · simp (maxSteps := 4000000) only [push_cast, Int.reduceEq, Int.reduceBNe, Int.reduceBEq, Int.reduceAdd, Int.reduceSub, Int.reduceMul, Int.reduceNeg, Int.reduceLT, Int.reduceLE, Int.reduceToNat, Nat.reduceLT, Nat.reduceAdd, Nat.reduceSub, Nat.reduceMul, Nat.reduceEqDiff, Nat.reduceLeDiff, Nat.reduceBEq, reduceIte, reduceCtorEq]
      refine ⟨fun q => Sub.w [0, 1, 2, 3] ?_, fun q => Sub.w [0, 1, 2, 3] ?_⟩
      · simp (maxSteps := 4000000) only [push_cast, Int.reduceEq, Int.reduceBNe, Int.reduceBEq, Int.reduceAdd, Int.reduceSub, Int.reduceMul, Int.reduceNeg, Int.reduceLT, Int.reduceLE, Int.reduceToNat, Nat.reduceLT, Nat.reduceAdd, Nat.reduceSub, Nat.reduceMul, Nat.reduceEqDiff, Nat.reduceLeDiff, Nat.reduceBEq, reduceIte, reduceCtorEq, numHp, rdL, fixL, partC]
        unfold mostQ; rw [if_pos (by omega)]; rfl
      · simp (maxSteps := 4000000) only [push_cast, Int.reduceEq, Int.reduceBNe, Int.reduceBEq, Int.reduceAdd, Int.reduceSub, Int.reduceMul, Int.reduceNeg, Int.reduceLT, Int.reduceLE, Int.reduceToNat, Nat.reduceLT, Nat.reduceAdd, Nat.reduceSub, Nat.reduceMul, Nat.reduceEqDiff, Nat.reduceLeDiff, Nat.reduceBEq, reduceIte, reduceCtorEq, numHp, rdL, fixL, partC]
        unfold mostQ; rw [if_neg (by omega)]
    refine evCode_sound Γok _ _ _ ?_
    simp (maxSteps := 4000000) only [push_cast, Int.reduceEq, Int.reduceBNe, Int.reduceBEq, Int.reduceAdd, Int.reduceSub, Int.reduceMul, Int.reduceNeg, Int.reduceLT, Int.reduceLE, Int.reduceToNat, Nat.reduceLT, Nat.reduceAdd, Nat.reduceSub, Nat.reduceMul, Nat.reduceEqDiff, Nat.reduceLeDiff, Nat.reduceBEq, reduceIte, reduceCtorEq, numHp, rdL, fixL, partC, q115]
    refine ⟨fun h5 => ?_, fun h5 => ?_⟩
    · rw [if_pos h5] at hq
      refine call_w (takeA_c (fun c => !isBlank c) 56 full_c (mostQ p) (by omega) b (at_ + skipP l) 0 hb (by omega)) [0, 1] (by simp (maxSteps := 4000000) only [push_cast, Int.reduceEq, Int.reduceBNe, Int.reduceBEq, Int.reduceAdd, Int.reduceSub, Int.reduceMul, Int.reduceNeg, Int.reduceLT, Int.reduceLE, Int.reduceToNat, Nat.reduceLT, Nat.reduceAdd, Nat.reduceSub, Nat.reduceMul, Nat.reduceEqDiff, Nat.reduceLeDiff, Nat.reduceBEq, reduceIte, reduceCtorEq, rdS, rdL, fixL]) ?_
      rintro sv post ⟨rfl, rfl⟩
      rw [hdrop, if_neg (show ¬ mostQ p = 0 by omega)]
      generalize takeP (fun c => !isBlank c) (mostQ p) (l.drop (skipP l)) = T at hq ⊢
      simp (maxSteps := 4000000) only [push_cast, Int.reduceEq, Int.reduceBNe, Int.reduceBEq, Int.reduceAdd, Int.reduceSub, Int.reduceMul, Int.reduceNeg, Int.reduceLT, Int.reduceLE, Int.reduceToNat, Nat.reduceLT, Nat.reduceAdd, Nat.reduceSub, Nat.reduceMul, Nat.reduceEqDiff, Nat.reduceLeDiff, Nat.reduceBEq, reduceIte, reduceCtorEq, rdS, rdL, fixL, mk_bs, bs_tl]
      refine ⟨fun h6 => ?_, fun h6 => ?_⟩
      · rw [if_pos h6] at hq
        refine call_w (lacks_c b (at_ + skipP l + T.s.length) (endE T.ended)) [0, 1] (by simp (maxSteps := 4000000) only [push_cast, Int.reduceEq, Int.reduceBNe, Int.reduceBEq, Int.reduceAdd, Int.reduceSub, Int.reduceMul, Int.reduceNeg, Int.reduceLT, Int.reduceLE, Int.reduceToNat, Nat.reduceLT, Nat.reduceAdd, Nat.reduceSub, Nat.reduceMul, Nat.reduceEqDiff, Nat.reduceLeDiff, Nat.reduceBEq, reduceIte, reduceCtorEq, rdS, rdL, fixL]) ?_
        rintro sv post ⟨rfl, rfl⟩
        rw [lack_end]
        simp (maxSteps := 4000000) only [push_cast, Int.reduceEq, Int.reduceBNe, Int.reduceBEq, Int.reduceAdd, Int.reduceSub, Int.reduceMul, Int.reduceNeg, Int.reduceLT, Int.reduceLE, Int.reduceToNat, Nat.reduceLT, Nat.reduceAdd, Nat.reduceSub, Nat.reduceMul, Nat.reduceEqDiff, Nat.reduceLeDiff, Nat.reduceBEq, reduceIte, reduceCtorEq, rdS, rdL, fixL]
        exact Fin.w [0, 1] _ (rdS b (at_ + skipP l) (endE T.ended)) (by simp (maxSteps := 4000000) only [push_cast, Int.reduceEq, Int.reduceBNe, Int.reduceBEq, Int.reduceAdd, Int.reduceSub, Int.reduceMul, Int.reduceNeg, Int.reduceLT, Int.reduceLE, Int.reduceToNat, Nat.reduceLT, Nat.reduceAdd, Nat.reduceSub, Nat.reduceMul, Nat.reduceEqDiff, Nat.reduceLeDiff, Nat.reduceBEq, reduceIte, reduceCtorEq, rdS, rdL, fixL, argQ, noArg, h6]; simp) (fin noArg _ _ _ hq)
      · rw [if_neg h6] at hq
        refine call_w (soft_c b (at_ + skipP l + T.s.length) (endE T.ended)) [0, 1] (by simp (maxSteps := 4000000) only [push_cast, Int.reduceEq, Int.reduceBNe, Int.reduceBEq, Int.reduceAdd, Int.reduceSub, Int.reduceMul, Int.reduceNeg, Int.reduceLT, Int.reduceLE, Int.reduceToNat, Nat.reduceLT, Nat.reduceAdd, Nat.reduceSub, Nat.reduceMul, Nat.reduceEqDiff, Nat.reduceLeDiff, Nat.reduceBEq, reduceIte, reduceCtorEq, rdS, rdL, fixL]) ?_
        rintro sv post ⟨rfl, rfl⟩
        rw [soft_end]
        simp (maxSteps := 4000000) only [push_cast, Int.reduceEq, Int.reduceBNe, Int.reduceBEq, Int.reduceAdd, Int.reduceSub, Int.reduceMul, Int.reduceNeg, Int.reduceLT, Int.reduceLE, Int.reduceToNat, Nat.reduceLT, Nat.reduceAdd, Nat.reduceSub, Nat.reduceMul, Nat.reduceEqDiff, Nat.reduceLeDiff, Nat.reduceBEq, reduceIte, reduceCtorEq, rdS, rdL, fixL]
        exact Fin.w [0, 1] _ (rdS b (at_ + (skipP l + T.s.length)) 0) (by simp (maxSteps := 4000000) only [push_cast, Int.reduceEq, Int.reduceBNe, Int.reduceBEq, Int.reduceAdd, Int.reduceSub, Int.reduceMul, Int.reduceNeg, Int.reduceLT, Int.reduceLE, Int.reduceToNat, Nat.reduceLT, Nat.reduceAdd, Nat.reduceSub, Nat.reduceMul, Nat.reduceEqDiff, Nat.reduceLeDiff, Nat.reduceBEq, reduceIte, reduceCtorEq, rdS, rdL, fixL, argQ, noArg]; omega) (fin ⟨4, 0, 0, T.s⟩ 0 _ _ hq)
    · rw [if_neg h5] at hq
      refine call_w (number_q p (mostQ p) hmost.1 hmost.2 b (at_ + skipP l) 0 hb (by omega)) [0, 1] (by simp (maxSteps := 4000000) only [push_cast, Int.reduceEq, Int.reduceBNe, Int.reduceBEq, Int.reduceAdd, Int.reduceSub, Int.reduceMul, Int.reduceNeg, Int.reduceLT, Int.reduceLE, Int.reduceToNat, Nat.reduceLT, Nat.reduceAdd, Nat.reduceSub, Nat.reduceMul, Nat.reduceEqDiff, Nat.reduceLeDiff, Nat.reduceBEq, reduceIte, reduceCtorEq, rdS, rdL, fixL, partC]) ?_
      rintro sv post ⟨rfl, rfl⟩
      rw [hdrop]
      generalize numberQ p (mostQ p) (l.drop (skipP l)) = R at hq ⊢
      obtain ⟨A, x, k, z⟩ := R
      simp (maxSteps := 4000000) only [push_cast, Int.reduceEq, Int.reduceBNe, Int.reduceBEq, Int.reduceAdd, Int.reduceSub, Int.reduceMul, Int.reduceNeg, Int.reduceLT, Int.reduceLE, Int.reduceToNat, Nat.reduceLT, Nat.reduceAdd, Nat.reduceSub, Nat.reduceMul, Nat.reduceEqDiff, Nat.reduceLeDiff, Nat.reduceBEq, reduceIte, reduceCtorEq, rdS, rdL, fixL, argQ]
      exact Fin.w [0, 1] _ (rdS b (at_ + (skipP l + k)) z) (by simp (maxSteps := 4000000) only [push_cast, Int.reduceEq, Int.reduceBNe, Int.reduceBEq, Int.reduceAdd, Int.reduceSub, Int.reduceMul, Int.reduceNeg, Int.reduceLT, Int.reduceLE, Int.reduceToNat, Nat.reduceLT, Nat.reduceAdd, Nat.reduceSub, Nat.reduceMul, Nat.reduceEqDiff, Nat.reduceLeDiff, Nat.reduceBEq, reduceIte, reduceCtorEq, rdS, rdL, fixL, argQ]; omega) (fin A x _ z hq)
end Go.Proofs.YtmciepkhpocafaaGreat
/- Scan: all parts; a text as values. -/
namespace Go.Proofs.YtmciepkhpocafaaGreat
open Go Go.Eng
set_option maxHeartbeats 4000000
set_option linter.unusedSimpArgs false
set_option linter.unusedVariables false
set_option maxRecDepth 100000

theorem numberQ_le (p : PartP) (most : Nat) (l : List UInt8) : (numberQ p most l).2.2.1 ≤ l.length := by
  have h1 : (sgnQ p l).s.length ≤ l.length := by
    unfold sgnQ
    split
    · exact (takeP_len isSign 1 l).2
    · simp
  have h2 : (digQ p most l).s.length ≤ l.length - (sgnQ p l).s.length := by
    unfold digQ
    split
    · have := (takeP_len (fitB (baseQ p.verb)) (most - (sgnQ p l).s.length) (l.drop (sgnQ p l).s.length)).2
      rwa [List.length_drop] at this
    · simp
  unfold numberQ
  simp only
  split
  · simp only; omega
  split
  · simp only; omega
  split
  · simp only; omega
  split
  · simp only; omega
  · simp only; omega
theorem oneQ_le (p : PartP) (l : List UInt8) : (oneQ p l).2.2.1 ≤ l.length := by
  have hs := skipP_le l
  have hd : (l.drop (skipP l)).length = l.length - skipP l := List.length_drop
  unfold oneQ
  split
  · have := (takeP_len (fun c => c == p.c) 1 l).2
    simp only
    split
    · simp
    · simp only; omega
  split
  · exact hs
  split
  · have := (takeP_len (fun _ => true) (wantQ p) l).2
    simp only
    split
    · simp only; omega
    split
    · simp only; omega
    · simp only; omega
  split
  · exact hs
  split
  · have := (takeP_len (fun c => !isBlank c) (mostQ p) (l.drop (skipP l))).2
    simp only
    split
    · exact hs
    · simp only; omega
  · have := numberQ_le p (mostQ p) (l.drop (skipP l))
    simp only
    omega
/-- The Args that are told, the error, how many bytes were used up. -/
def allQ (l : List UInt8) : List PartP → Nat → List AV → List AV × Int × Nat
  | [], k, out => (out, 0, k)
  | p :: r, k, out => if (oneQ p (l.drop k)).2.1 ≠ 0 then (out, (oneQ p (l.drop k)).2.1, k + (oneQ p (l.drop k)).2.2.1) else allQ l r (k + (oneQ p (l.drop k)).2.2.1) (if p.tells then out ++ [(oneQ p (l.drop k)).1] else out)
def argElQ (args : List AV) : Nat → Nat → SV := elOf (args.map argQ)
theorem argElQ_app (args : List AV) (a : AV) : catEl args.length (argElQ args) (elOf [argQ a]) = argElQ (args ++ [a]) := by
  unfold argElQ
  rw [List.map_append, ← elOf_appf, List.length_map]
  rfl
theorem W_argQ (f : Nat → Nat) : ∀ (args : List AV) (i j : Nat), W false f (argElQ args i j) (argElQ args i j)
  | [], i, j => by simp only [argElQ, elOf, List.map_nil, pickL, lget, W]
  | a :: r, 0, j => by
    show W false f (lget (argQ a) j) (lget (argQ a) j)
    match j with
    | 0 => simp only [argQ, lget, W]; exact ⟨trivial, trivial⟩
    | 1 => simp only [argQ, lget, W]; exact ⟨trivial, trivial⟩
    | 2 => simp only [argQ, lget, W]; exact ⟨trivial, trivial⟩
    | 3 => simp only [argQ, lget, W]
    | n + 4 => simp only [argQ, lget, W]
  | a :: r, i + 1, j => W_argQ f r i j
theorem partEl_drop : ∀ (ps : List PartP) (k i j : Nat), partEl ps (k + i) j = partEl (ps.drop k) i j
  | [], k, i, j => by simp [partEl, elOf, pickL]
  | a :: r, 0, i, j => by rw [Nat.zero_add]; rfl
  | a :: r, k + 1, i, j => by
    rw [Nat.add_right_comm]
    exact partEl_drop r k i j
def isAll (R : List AV × Int × Nat) (b : List UInt8) (at_ : Nat) (sv : SV) (post : SS) : Prop := sv = .tup [.sl 4 .old R.1.length (argElQ R.1), .i .i64 R.2.1] ∧ ∃ z, post = rdS b (at_ + R.2.2) z
theorem all_q (ps : List PartP) (hps : ∀ p, p ∈ ps → p.width ≤ 4096) (hpl : ps.length ≤ 65536) (b : List UInt8) (e : Int) (hb : b.length ≤ 140737488355328) :
    Contract Tryz.prog 14 (rdS b 0 e) [.ptr 1 0, .sl 4 .old ps.length (partEl ps)] (isAll (allQ b ps 0 []) b 0) := by
  refine contract_of Γok Tryz.func14 rfl rfl (stop := []) ?_
  refine evCode_sound Γok _ _ _ ?_
  simp (maxSteps := 4000000) only [push_cast, Int.reduceEq, Int.reduceBNe, Int.reduceBEq, Int.reduceAdd, Int.reduceSub, Int.reduceMul, Int.reduceNeg, Int.reduceLT, Int.reduceLE, Int.reduceToNat, Nat.reduceLT, Nat.reduceAdd, Nat.reduceSub, Nat.reduceMul, Nat.reduceEqDiff, Nat.reduceLeDiff, Nat.reduceBEq, reduceIte, reduceCtorEq, Tryz.f14, rdS, rdL, fixL]
  refine loop_ok (ι := {q : Nat × List PartP × Nat × List AV × Int // allQ b q.2.1 q.2.2.1 q.2.2.2.1 = allQ b ps 0 [] ∧ ps.drop q.1 = q.2.1 ∧ q.1 + q.2.1.length = ps.length ∧ q.2.2.1 ≤ b.length ∧ q.2.2.2.1.length ≤ q.1})
    (fun q => ⟨[.ptr 1 0, .any, .any, .any, .any, .any, .sl 4 (.tok 2 true) q.1.2.2.2.1.length (argElQ q.1.2.2.2.1), .any, .any, .any, .any, .sl 4 .old ps.length (partEl ps), .i .i64 ps.length, .i .i64 q.1.1] ++ List.replicate 21 .any, [(0, 66, fixL b q.1.2.2.1), (1, 72, rdL q.1.2.2.2.2)], [2], [], 3, 2, []⟩) (fun q => q.1.2.1.length) ⟨(0, ps, 0, [], e), rfl, rfl, by simp, by simp, by simp⟩ ?_ ?_
  · refine Sub.trans (Sub.tokFrS 6 4 (argElQ []) rfl) (Sub.w [0, 1, 2] ?_)
    simp (maxSteps := 4000000) only [push_cast, Int.reduceEq, Int.reduceBNe, Int.reduceBEq, Int.reduceAdd, Int.reduceSub, Int.reduceMul, Int.reduceNeg, Int.reduceLT, Int.reduceLE, Int.reduceToNat, Nat.reduceLT, Nat.reduceAdd, Nat.reduceSub, Nat.reduceMul, Nat.reduceEqDiff, Nat.reduceLeDiff, Nat.reduceBEq, reduceIte, reduceCtorEq, rdL, fixL]
    exact ⟨fun i hi => absurd hi (Nat.not_lt_zero _), fun i _ j _ => W_part _ ps i j⟩
  rintro ⟨⟨i, r, k, out, z⟩, h1, h2, h3, h4, h5⟩
  simp only at h1 h2 h3 h4 h5
  refine evCode_sound Γok _ _ _ ?_
  simp (maxSteps := 4000000) only [push_cast, Int.reduceEq, Int.reduceBNe, Int.reduceBEq, Int.reduceAdd, Int.reduceSub, Int.reduceMul, Int.reduceNeg, Int.reduceLT, Int.reduceLE, Int.reduceToNat, Nat.reduceLT, Nat.reduceAdd, Nat.reduceSub, Nat.reduceMul, Nat.reduceEqDiff, Nat.reduceLeDiff, Nat.reduceBEq, reduceIte, reduceCtorEq, rdL, fixL]
  refine ⟨fun h6 => ?_, fun h6 => ?_⟩
  · obtain ⟨p, r, rfl⟩ : ∃ d r', r = d :: r' := by
      cases r with
      | nil => simp only [List.length_nil] at h3; omega
      | cons d r => exact ⟨d, r, rfl⟩
    simp only [List.length_cons] at h3
    have hp : p ∈ ps := List.mem_of_mem_drop (by rw [h2]; exact List.mem_cons_self)
    have hmap : List.map (partEl ps ((i : Int)).toNat) (List.range 4) = partC p := by
      rw [Int.toNat_natCast]
      show _ = List.map (partEl (p :: r) 0) (List.range 4)
      congr 1
      funext j
      have := partEl_drop ps i 0 j
      rw [h2] at this
      exact this
    rw [hmap]
    have hr : ps.drop (i + 1) = r := by rw [← List.drop_drop, h2]; rfl
    simp (maxSteps := 4000000) only [push_cast, Int.reduceEq, Int.reduceBNe, Int.reduceBEq, Int.reduceAdd, Int.reduceSub, Int.reduceMul, Int.reduceNeg, Int.reduceLT, Int.reduceLE, Int.reduceToNat, Nat.reduceLT, Nat.reduceAdd, Nat.reduceSub, Nat.reduceMul, Nat.reduceEqDiff, Nat.reduceLeDiff, Nat.reduceBEq, reduceIte, reduceCtorEq, partC]
    refine ⟨by omega, ?_⟩
    refine call_w (one_q p (hps p hp) b k z hb h4) [0, 1] (by simp (maxSteps := 4000000) only [push_cast, Int.reduceEq, Int.reduceBNe, Int.reduceBEq, Int.reduceAdd, Int.reduceSub, Int.reduceMul, Int.reduceNeg, Int.reduceLT, Int.reduceLE, Int.reduceToNat, Nat.reduceLT, Nat.reduceAdd, Nat.reduceSub, Nat.reduceMul, Nat.reduceEqDiff, Nat.reduceLeDiff, Nat.reduceBEq, reduceIte, reduceCtorEq, rdS, rdL, fixL, partC]) ?_
    rintro sv post ⟨rfl, rfl⟩
    have hle := oneQ_le p (b.drop k)
    rw [List.length_drop] at hle
    simp only [allQ] at h1
    generalize oneQ p (b.drop k) = R at h1 hle ⊢
    obtain ⟨A, x, m, z'⟩ := R
    simp only at h1 hle
    simp (maxSteps := 4000000) only [push_cast, Int.reduceEq, Int.reduceBNe, Int.reduceBEq, Int.reduceAdd, Int.reduceSub, Int.reduceMul, Int.reduceNeg, Int.reduceLT, Int.reduceLE, Int.reduceToNat, Nat.reduceLT, Nat.reduceAdd, Nat.reduceSub, Nat.reduceMul, Nat.reduceEqDiff, Nat.reduceLeDiff, Nat.reduceBEq, reduceIte, reduceCtorEq, rdS, rdL, fixL, argQ]
    refine ⟨fun h7 => ?_, fun h7 => ?_⟩
    · rw [if_pos h7] at h1
      rw [← h1]
      exact Fin.w [0, 1] (.tup [.sl 4 .old out.length (argElQ out), .i .i64 x]) (rdS b (0 + (k + m)) z') (by simp (maxSteps := 4000000) only [push_cast, Int.reduceEq, Int.reduceBNe, Int.reduceBEq, Int.reduceAdd, Int.reduceSub, Int.reduceMul, Int.reduceNeg, Int.reduceLT, Int.reduceLE, Int.reduceToNat, Nat.reduceLT, Nat.reduceAdd, Nat.reduceSub, Nat.reduceMul, Nat.reduceEqDiff, Nat.reduceLeDiff, Nat.reduceBEq, reduceIte, reduceCtorEq, rdS, rdL, fixL]; exact fun i _ j _ => W_argQ _ out i j) ⟨rfl, z', rfl⟩
    · rw [if_neg (by omega)] at h1
      refine call_w (tells_c p) [] (by simp (maxSteps := 4000000) only [push_cast, Int.reduceEq, Int.reduceBNe, Int.reduceBEq, Int.reduceAdd, Int.reduceSub, Int.reduceMul, Int.reduceNeg, Int.reduceLT, Int.reduceLE, Int.reduceToNat, Nat.reduceLT, Nat.reduceAdd, Nat.reduceSub, Nat.reduceMul, Nat.reduceEqDiff, Nat.reduceLeDiff, Nat.reduceBEq, reduceIte, reduceCtorEq, partC]) ?_
      rintro sv post ⟨rfl, rfl⟩
      simp (maxSteps := 4000000) only [push_cast, Int.reduceEq, Int.reduceBNe, Int.reduceBEq, Int.reduceAdd, Int.reduceSub, Int.reduceMul, Int.reduceNeg, Int.reduceLT, Int.reduceLE, Int.reduceToNat, Nat.reduceLT, Nat.reduceAdd, Nat.reduceSub, Nat.reduceMul, Nat.reduceEqDiff, Nat.reduceLeDiff, Nat.reduceBEq, reduceIte, reduceCtorEq]
      refine ⟨fun h8 => ?_, fun h8 => ?_⟩
      · rw [if_pos h8] at h1
        have e2 : catEl out.length (argElQ out) (elOf [[SV.i .i64 A.kind, .i .i64 A.n, .i .u64 A.u, .s (bs A.t)]]) = argElQ (out ++ [A]) := argElQ_app out A
        refine ⟨by omega, fun i' hi' j hj => ?_, ⟨(i + 1, r, k + m, out ++ [A], z'), h1, hr, by simp only; omega, by simp only; omega, by simp only [List.length_append, List.length_cons, List.length_nil]; omega⟩, by simp only; omega, Sub.w [0, 1, 6] ?_⟩
        · obtain rfl : i' = 0 := by omega
          match j, hj with
          | 0, _ => rfl
          | 1, _ => rfl
          | 2, _ => rfl
          | 3, _ => rfl
        · simp (maxSteps := 4000000) only [push_cast, Int.reduceEq, Int.reduceBNe, Int.reduceBEq, Int.reduceAdd, Int.reduceSub, Int.reduceMul, Int.reduceNeg, Int.reduceLT, Int.reduceLE, Int.reduceToNat, Nat.reduceLT, Nat.reduceAdd, Nat.reduceSub, Nat.reduceMul, Nat.reduceEqDiff, Nat.reduceLeDiff, Nat.reduceBEq, reduceIte, reduceCtorEq, e2, rdL, fixL, List.length_append]
          exact ⟨fun i _ j _ => W_argQ _ (out ++ [A]) i j, fun i _ j _ => W_part _ ps i j, (wrap64 (n := (i : Int) + 1) (by omega) (by omega)).symm⟩
      · rw [if_neg (by rw [h8]; simp)] at h1
        refine ⟨⟨(i + 1, r, k + m, out, z'), h1, hr, by simp only; omega, by simp only; omega, by simp only; omega⟩, by simp only; omega, Sub.w [0, 1, 2] ?_⟩
        simp (maxSteps := 4000000) only [push_cast, Int.reduceEq, Int.reduceBNe, Int.reduceBEq, Int.reduceAdd, Int.reduceSub, Int.reduceMul, Int.reduceNeg, Int.reduceLT, Int.reduceLE, Int.reduceToNat, Nat.reduceLT, Nat.reduceAdd, Nat.reduceSub, Nat.reduceMul, Nat.reduceEqDiff, Nat.reduceLeDiff, Nat.reduceBEq, reduceIte, reduceCtorEq, rdL, fixL]
        exact ⟨fun i _ j _ => W_argQ _ out i j, fun i _ j _ => W_part _ ps i j, (wrap64 (n := (i : Int) + 1) (by omega) (by omega)).symm⟩
  · obtain rfl : r = [] := List.eq_nil_of_length_eq_zero (by omega)
    simp only [allQ] at h1
    rw [← h1]
    exact Fin.w [0, 1] (.tup [.sl 4 .old out.length (argElQ out), .i .i64 0]) (rdS b (0 + k) z) (by simp (maxSteps := 4000000) only [push_cast, Int.reduceEq, Int.reduceBNe, Int.reduceBEq, Int.reduceAdd, Int.reduceSub, Int.reduceMul, Int.reduceNeg, Int.reduceLT, Int.reduceLE, Int.reduceToNat, Nat.reduceLT, Nat.reduceAdd, Nat.reduceSub, Nat.reduceMul, Nat.reduceEqDiff, Nat.reduceLeDiff, Nat.reduceBEq, reduceIte, reduceCtorEq, rdS, rdL, fixL]; exact fun i _ j _ => W_argQ _ out i j) ⟨rfl, z, rfl⟩

theorem partsF_ok : ∀ (f at_ : Nat) (l : List UInt8) (out : List PartP), (∀ p, p ∈ out → p.width ≤ 4096) → (∀ p, p ∈ (partsF f at_ l out).1 → p.width ≤ 4096) ∧ (partsF f at_ l out).1.length ≤ out.length + l.length
  | 0, at_, l, out, h => ⟨h, Nat.le_add_right _ _⟩
  | f + 1, at_, [], out, h => by simp only [partsF]; exact ⟨h, Nat.le_add_right _ _⟩
  | f + 1, at_, c :: r, out, h => by
    cases hc : cutP (c :: r) with
    | none => rw [partsF_bad hc]; exact ⟨fun p hp => by simp at hp, by simp⟩
    | some pn =>
      obtain ⟨p, n⟩ := pn
      obtain ⟨s1, s2, s3⟩ := cutP_size hc
      rw [partsF_go hc]
      have := partsF_ok f (at_ + n) ((c :: r).drop n) (out ++ [p]) (fun q hq => by
        rcases List.mem_append.1 hq with hq | hq
        · exact h q hq
        · rw [List.mem_singleton.1 hq]; exact s3)
      refine ⟨this.1, Nat.le_trans this.2 ?_⟩
      simp only [List.length_append, List.length_cons, List.length_nil, List.length_drop]
      omega
theorem partsP_ok (l : List UInt8) : (∀ p, p ∈ (partsP l).1 → p.width ≤ 4096) ∧ (partsP l).1.length ≤ 65536 := by
  unfold partsP
  split
  · exact ⟨fun p hp => by simp at hp, by simp⟩
  · have := partsF_ok (l.length + 1) 0 l [] (fun p hp => by simp at hp)
    refine ⟨this.1, ?_⟩
    have := this.2
    simp only [List.length_nil] at this
    omega
theorem ren_part (f : Nat → Nat) : ∀ (ps : List PartP) (i j : Nat), ren f (partEl ps i j) = partEl ps i j
  | [], i, j => by simp only [partEl, elOf, List.map_nil, pickL, lget, ren]
  | a :: r, 0, j => by
    show ren f (lget (partC a) j) = lget (partC a) j
    match j with
    | 0 => rfl
    | 1 => rfl
    | 2 => rfl
    | 3 => rfl
    | n + 4 => rfl
  | a :: r, i + 1, j => ren_part f r i j
theorem ren_partf (f : Nat → Nat) (ps : List PartP) : (fun i j => ren f (partEl ps i j)) = partEl ps := by
  funext i j
  exact ren_part f ps i j
theorem ren_argQ (f : Nat → Nat) : ∀ (ps : List AV) (i j : Nat), ren f (argElQ ps i j) = argElQ ps i j
  | [], i, j => by simp only [argElQ, elOf, List.map_nil, pickL, lget, ren]
  | a :: r, 0, j => by
    show ren f (lget (argQ a) j) = lget (argQ a) j
    match j with
    | 0 => rfl
    | 1 => rfl
    | 2 => rfl
    | 3 => rfl
    | n + 4 => rfl
  | a :: r, i + 1, j => ren_argQ f r i j
theorem ren_argQf (f : Nat → Nat) (ps : List AV) : (fun i j => ren f (argElQ ps i j)) = argElQ ps := by
  funext i j
  exact ren_argQ f ps i j
def isScan (f b : List UInt8) (sv : SV) (post : SS) : Prop :=
  post = nilSS ∧ (((partsP f).2.1 ≠ 0 ∧ sv = .tup [.ints .u8 .nil [], .i .i64 0, .i .i64 (partsP f).2.1]) ∨
    ((partsP f).2.1 = 0 ∧ sv = .tup [.sl 4 .old (allQ b (partsP f).1 0 []).1.length (argElQ (allQ b (partsP f).1 0 []).1), .i .i64 (allQ b (partsP f).1 0 []).2.2, .i .i64 (allQ b (partsP f).1 0 []).2.1]))
theorem scan_c (f b : List UInt8) (hb : b.length ≤ 140737488355328) : Contract Tryz.prog 5 nilSS [.s (bs f), .ints .u8 .old (ofU b)] (isScan f b) := by
  refine contract_of Γok Tryz.func5 rfl rfl (stop := []) ?_
  refine evCode_sound Γok _ _ _ ?_
  simp (maxSteps := 4000000) only [push_cast, Int.reduceEq, Int.reduceBNe, Int.reduceBEq, Int.reduceAdd, Int.reduceSub, Int.reduceMul, Int.reduceNeg, Int.reduceLT, Int.reduceLE, Int.reduceToNat, Nat.reduceLT, Nat.reduceAdd, Nat.reduceSub, Nat.reduceMul, Nat.reduceEqDiff, Nat.reduceLeDiff, Nat.reduceBEq, reduceIte, reduceCtorEq, Tryz.f5]
  refine call_w (parts_c f) [] (by simp (maxSteps := 4000000) only [push_cast, Int.reduceEq, Int.reduceBNe, Int.reduceBEq, Int.reduceAdd, Int.reduceSub, Int.reduceMul, Int.reduceNeg, Int.reduceLT, Int.reduceLE, Int.reduceToNat, Nat.reduceLT, Nat.reduceAdd, Nat.reduceSub, Nat.reduceMul, Nat.reduceEqDiff, Nat.reduceLeDiff, Nat.reduceBEq, reduceIte, reduceCtorEq]) ?_
  rintro sv post ⟨rfl, hp⟩
  obtain ⟨hok1, hok2⟩ := partsP_ok f
  have hsc : ∀ sv, (((partsP f).2.1 ≠ 0 ∧ sv = .tup [.ints .u8 .nil [], .i .i64 0, .i .i64 (partsP f).2.1]) ∨
    ((partsP f).2.1 = 0 ∧ sv = .tup [.sl 4 .old (allQ b (partsP f).1 0 []).1.length (argElQ (allQ b (partsP f).1 0 []).1), .i .i64 (allQ b (partsP f).1 0 []).2.2, .i .i64 (allQ b (partsP f).1 0 []).2.1])) → isScan f b sv nilSS := fun sv h => ⟨rfl, h⟩
  generalize partsP f = P at hp hok1 hok2 hsc
  obtain ⟨ps, pe, pa⟩ := P
  simp only at hp hok1 hok2 hsc
  rcases hp with ⟨rfl, rfl⟩ | ⟨hne, rfl⟩
  · simp (maxSteps := 4000000) only [push_cast, Int.reduceEq, Int.reduceBNe, Int.reduceBEq, Int.reduceAdd, Int.reduceSub, Int.reduceMul, Int.reduceNeg, Int.reduceLT, Int.reduceLE, Int.reduceToNat, Nat.reduceLT, Nat.reduceAdd, Nat.reduceSub, Nat.reduceMul, Nat.reduceEqDiff, Nat.reduceLeDiff, Nat.reduceBEq, reduceIte, reduceCtorEq, ren_partf]
    refine call_w (all_q ps hok1 hok2 b 0 hb) [0, 1] (by simp (maxSteps := 4000000) only [push_cast, Int.reduceEq, Int.reduceBNe, Int.reduceBEq, Int.reduceAdd, Int.reduceSub, Int.reduceMul, Int.reduceNeg, Int.reduceLT, Int.reduceLE, Int.reduceToNat, Nat.reduceLT, Nat.reduceAdd, Nat.reduceSub, Nat.reduceMul, Nat.reduceEqDiff, Nat.reduceLeDiff, Nat.reduceBEq, reduceIte, reduceCtorEq, rdS, rdL, fixL]; exact fun i _ j _ => W_part _ ps i j) ?_
    rintro sv post ⟨rfl, z, rfl⟩
    have h2 := hsc _ (.inr ⟨rfl, rfl⟩)
    generalize allQ b ps 0 [] = R at h2 ⊢
    obtain ⟨out, x, k⟩ := R
    simp only at h2
    simp (maxSteps := 4000000) only [push_cast, Int.reduceEq, Int.reduceBNe, Int.reduceBEq, Int.reduceAdd, Int.reduceSub, Int.reduceMul, Int.reduceNeg, Int.reduceLT, Int.reduceLE, Int.reduceToNat, Nat.reduceLT, Nat.reduceAdd, Nat.reduceSub, Nat.reduceMul, Nat.reduceEqDiff, Nat.reduceLeDiff, Nat.reduceBEq, reduceIte, reduceCtorEq, rdS, rdL, fixL, ren_argQf]
    refine (region_plan rfl Γok mixed (.pure 0 (.pure 1 (.pure 2 (.pure 3 (.pure 4 (.pure 5 (.pure 6 (.pure 7 (.pure 8 .done))))))))) 39 rfl (by kernel_rfl) ?_)
    simp (maxSteps := 4000000) only [push_cast, Int.reduceEq, Int.reduceBNe, Int.reduceBEq, Int.reduceAdd, Int.reduceSub, Int.reduceMul, Int.reduceNeg, Int.reduceLT, Int.reduceLE, Int.reduceToNat, Nat.reduceLT, Nat.reduceAdd, Nat.reduceSub, Nat.reduceMul, Nat.reduceEqDiff, Nat.reduceLeDiff, Nat.reduceBEq, reduceIte, reduceCtorEq]
    exact Fin.w [] _ nilSS (by simp (maxSteps := 4000000) only [push_cast, Int.reduceEq, Int.reduceBNe, Int.reduceBEq, Int.reduceAdd, Int.reduceSub, Int.reduceMul, Int.reduceNeg, Int.reduceLT, Int.reduceLE, Int.reduceToNat, Nat.reduceLT, Nat.reduceAdd, Nat.reduceSub, Nat.reduceMul, Nat.reduceEqDiff, Nat.reduceLeDiff, Nat.reduceBEq, reduceIte, reduceCtorEq]; exact fun i _ j _ => W_argQ _ out i j) h2
  · simp (maxSteps := 4000000) only [push_cast, Int.reduceEq, Int.reduceBNe, Int.reduceBEq, Int.reduceAdd, Int.reduceSub, Int.reduceMul, Int.reduceNeg, Int.reduceLT, Int.reduceLE, Int.reduceToNat, Nat.reduceLT, Nat.reduceAdd, Nat.reduceSub, Nat.reduceMul, Nat.reduceEqDiff, Nat.reduceLeDiff, Nat.reduceBEq, reduceIte, reduceCtorEq]
    refine ⟨fun h => ?_, fun h => absurd h hne⟩
    exact Fin.w [] _ nilSS (by simp (maxSteps := 4000000) only [push_cast, Int.reduceEq, Int.reduceBNe, Int.reduceBEq, Int.reduceAdd, Int.reduceSub, Int.reduceMul, Int.reduceNeg, Int.reduceLT, Int.reduceLE, Int.reduceToNat, Nat.reduceLT, Nat.reduceAdd, Nat.reduceSub, Nat.reduceMul, Nat.reduceEqDiff, Nat.reduceLeDiff, Nat.reduceBEq, reduceIte, reduceCtorEq]) (hsc _ (.inl ⟨hne, rfl⟩))
end Go.Proofs.YtmciepkhpocafaaGreat
