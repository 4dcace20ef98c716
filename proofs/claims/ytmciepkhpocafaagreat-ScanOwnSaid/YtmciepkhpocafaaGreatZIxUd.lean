/- Texts joined, in order: Ix, Sh, Ua, Ub, Uc, Ud. -/
import Derived.Test.YtmciepkhpocafaaGreatZGeTab
import Derived.Test.YtmciepkhpocafaaGreatZCaRg
import Derived.Lib.Bytealg
import Derived.Ground.NamesProg
import Derived.Shelf.Bits.Mul64
import Derived.Shelf.Bytes.IndexByte
import Derived.Shelf.Small.Strs
import Derived.Shelf.Strings.Prefix
import Derived.Shelf.Strings.Search1
import Derived.Test.YtmciepkhpocafaaGreatProg
import Derived.Lib.IndexAny
/- A byte's place in a text. -/
namespace Go.Proofs.YtmciepkhpocafaaGreat
open Go Go.Eng
set_option maxHeartbeats 4000000
set_option linter.unusedSimpArgs false
set_option linter.unusedVariables false
set_option maxRecDepth 100000

/-- A byte's place in a text; -1: it is not there. -/
def idxB (x : ByteArray) (c : Int) : Int := Go.Lib.indexByte x.data.toList c.toNat.toUInt8
theorem ext_index (x : ByteArray) (c : Int) : ExtPure Tryz.prog 94 [.s x, .i .u8 c] (.i .i64 (idxB x c)) := by
  intro E w vs hv
  match vs, hv with
  | [a, b], hv =>
    simp only [DenL, Den] at hv
    obtain ⟨rfl, rfl, _⟩ := hv
    refine ⟨.int .i64 (idxB x c), ?_, by simp only [Den]⟩
    rw [run_callFunc_extern Tryz.func94 (by kernel_rfl) (by kernel_rfl) (by kernel_rfl) (e := Extern.BytealgIndexByte.indexByte) (by kernel_rfl)]
    have := Go.Lib.run_indexByteString (P := Tryz.prog) x c w
    rw [show ([Value.string x, Value.int IntKind.u8 c] : List Value).toArray = #[Value.string x, Value.int IntKind.u8 c] from rfl, this]
    rfl
  | [], hv => simp only [DenL] at hv
  | [_], hv => simp only [DenL] at hv; exact hv.2.elim
  | _ :: _ :: _ :: _, hv => simp only [DenL] at hv; exact hv.2.2.elim
theorem indexL_c (x : ByteArray) (c : Int) : Contract Tryz.prog 81 nilSS [.s x, .i .u8 c] (fun sv post => sv = .i .i64 (idxB x c) ∧ post = nilSS) := by
  refine contract_ev Γok Tryz.func81 rfl rfl [] ?_
  simp (maxSteps := 4000000) only [push_cast, Int.reduceEq, Int.reduceBNe, Int.reduceBEq, Int.reduceAdd, Int.reduceSub, Int.reduceMul, Int.reduceNeg, Int.reduceLT, Int.reduceLE, Int.reduceToNat, Nat.reduceLT, Nat.reduceAdd, Nat.reduceSub, Nat.reduceMul, Nat.reduceEqDiff, Nat.reduceLeDiff, Nat.reduceBEq, reduceIte, reduceCtorEq, Tryz.f81]
  refine .inr ⟨_, ext_index x c, ?_⟩
  simp (maxSteps := 4000000) only [push_cast, Int.reduceEq, Int.reduceBNe, Int.reduceBEq, Int.reduceAdd, Int.reduceSub, Int.reduceMul, Int.reduceNeg, Int.reduceLT, Int.reduceLE, Int.reduceToNat, Nat.reduceLT, Nat.reduceAdd, Nat.reduceSub, Nat.reduceMul, Nat.reduceEqDiff, Nat.reduceLeDiff, Nat.reduceBEq, reduceIte, reduceCtorEq]
  exact Fin.nil rfl (psv := .i .i64 (idxB x c)) (by simp (maxSteps := 4000000) only [push_cast, Int.reduceEq, Int.reduceBNe, Int.reduceBEq, Int.reduceAdd, Int.reduceSub, Int.reduceMul, Int.reduceNeg, Int.reduceLT, Int.reduceLE, Int.reduceToNat, Nat.reduceLT, Nat.reduceAdd, Nat.reduceSub, Nat.reduceMul, Nat.reduceEqDiff, Nat.reduceLeDiff, Nat.reduceBEq, reduceIte, reduceCtorEq]) ⟨rfl, rfl⟩
theorem index_c (x : ByteArray) (c : Int) : Contract Tryz.prog 49 nilSS [.s x, .i .u8 c] (fun sv post => sv = .i .i64 (idxB x c) ∧ post = nilSS) := by
  refine contract_ev Γok Tryz.func49 rfl rfl [] ?_
  simp (maxSteps := 4000000) only [push_cast, Int.reduceEq, Int.reduceBNe, Int.reduceBEq, Int.reduceAdd, Int.reduceSub, Int.reduceMul, Int.reduceNeg, Int.reduceLT, Int.reduceLE, Int.reduceToNat, Nat.reduceLT, Nat.reduceAdd, Nat.reduceSub, Nat.reduceMul, Nat.reduceEqDiff, Nat.reduceLeDiff, Nat.reduceBEq, reduceIte, reduceCtorEq, Tryz.f49]
  refine call_w (indexL_c x c) [] (by simp (maxSteps := 4000000) only [push_cast, Int.reduceEq, Int.reduceBNe, Int.reduceBEq, Int.reduceAdd, Int.reduceSub, Int.reduceMul, Int.reduceNeg, Int.reduceLT, Int.reduceLE, Int.reduceToNat, Nat.reduceLT, Nat.reduceAdd, Nat.reduceSub, Nat.reduceMul, Nat.reduceEqDiff, Nat.reduceLeDiff, Nat.reduceBEq, reduceIte, reduceCtorEq]) ?_
  rintro sv post ⟨rfl, rfl⟩
  simp (maxSteps := 4000000) only [push_cast, Int.reduceEq, Int.reduceBNe, Int.reduceBEq, Int.reduceAdd, Int.reduceSub, Int.reduceMul, Int.reduceNeg, Int.reduceLT, Int.reduceLE, Int.reduceToNat, Nat.reduceLT, Nat.reduceAdd, Nat.reduceSub, Nat.reduceMul, Nat.reduceEqDiff, Nat.reduceLeDiff, Nat.reduceBEq, reduceIte, reduceCtorEq]
  exact Fin.nil rfl (psv := .i .i64 (idxB x c)) (by simp (maxSteps := 4000000) only [push_cast, Int.reduceEq, Int.reduceBNe, Int.reduceBEq, Int.reduceAdd, Int.reduceSub, Int.reduceMul, Int.reduceNeg, Int.reduceLT, Int.reduceLE, Int.reduceToNat, Nat.reduceLT, Nat.reduceAdd, Nat.reduceSub, Nat.reduceMul, Nat.reduceEqDiff, Nat.reduceLeDiff, Nat.reduceBEq, reduceIte, reduceCtorEq]) ⟨rfl, rfl⟩

end Go.Proofs.YtmciepkhpocafaaGreat
/-
  DERIVED: THE SHELF's CONTRACTS AT THIS DUMP, IN PLAIN WORDS (tools/lay-plain.mjs out of 'YtmciepkhpocafaaGreatSh.lean', which tools/lay-shelf.mjs wrote): THE SAME DECLARATIONS UNDER THE SAME NAMES: 'import', 'namespace', 'open', 'def', 'theorem' AND NOTHING ELSE: no command of the shelf's: FOR A HAND-IN. Each laying: the table of numbers ('.._ren') and one theorem, a field a fact of the dump's own or the kernel's comparison; each contract: ONE APPLICATION.
-/
namespace Go.Proofs
open Go.Shelf
def Tryz.lays99_ren : Go.Shelf.Ren := ⟨fun | 99 => 47 | 206 => 79 | n => n, fun | 9 => 9 | 4 => 4 | 3 => 3 | n => n, fun | n => n⟩
theorem Tryz.lays99 : Go.Proofs.Lays.n99 Tryz.prog Tryz.lays99_ren := {
  mixed := by kernel_rfl
  f99 := Tryz.func47.trans (congrArg some (by kernel_rfl))
  f206 := Tryz.func79.trans (congrArg some (by kernel_rfl))
  t3 := Tryz.underlying3
  a3 := Tryz.isAgg3
  z3 := Tryz.sizeOf3
  v3 := Tryz.zeroValue3
  t4 := Tryz.underlying4
  a4 := Tryz.isAgg4
  z4 := Tryz.sizeOf4
  v4 := Tryz.zeroValue4
  t9 := Tryz.underlying9
  a9 := Tryz.isAgg9
  z9 := Tryz.sizeOf9
  v9 := Tryz.zeroValue9 }
open Go.RowKit Go.Lib in
/-- strings.HasPrefix: "HasPrefix reports whether the string s begins with prefix.": IT RETURNS 'Lib.hasPrefix s prefix'; the world is as it was. (LAID: no walk: one application.) -/
theorem Tryz.strings_HasPrefix (s p : ByteArray) (w : World) :
    Calls Tryz.prog 47 #[.string s, .string p] w fun e w' => e = .returned (.bool (Lib.hasPrefix s.data.toList p.data.toList)) ∧ w' = w := Any.strings_HasPrefix Tryz.lays99 s p w
def Tryz.lays187_ren : Go.Shelf.Ren := ⟨fun | 187 => 102 | 255 => 104 | n => n, fun | 37 => 22 | 5 => 5 | 3 => 3 | n => n, fun | n => n⟩
theorem Tryz.lays187 : Go.Proofs.Lays.n187 Tryz.prog Tryz.lays187_ren := {
  mixed := by kernel_rfl
  f187 := Tryz.func102.trans (congrArg some (by kernel_rfl))
  f255 := Tryz.func104.trans (congrArg some (by kernel_rfl))
  t3 := Tryz.underlying3
  a3 := Tryz.isAgg3
  z3 := Tryz.sizeOf3
  v3 := Tryz.zeroValue3
  t5 := Tryz.underlying5
  a5 := Tryz.isAgg5
  z5 := Tryz.sizeOf5
  v5 := Tryz.zeroValue5
  t37 := Tryz.underlying22
  a37 := Tryz.isAgg22
  z37 := Tryz.sizeOf22
  v37 := Tryz.zeroValue22 }
/-- bytes.IndexByte: "IndexByte returns the index of the first instance of c in b, or -1 if c is not present in b.": IT RETURNS 'Lib.indexByte (the bytes of b) c'; the world is as it was. 'xs': the numbers that the slice's cells hold. (LAID: no walk: one application.) -/
theorem Tryz.bytes_IndexByte (b o n c : Nat) (xs : List Int) (cv : Int) (w : World) (hx : xs.length = n) (hc : ∀ i, i < n → w.cell? ⟨b, o + i, none⟩ = some (.int .u8 (xs.getD i 0))) :
    Calls Tryz.prog 102 #[.slice (some ⟨b, o, none⟩) n c, .int .u8 cv] w fun e w' => e = .returned (.int .i64 (Lib.indexByte (Lib.bytesOf xs) cv.toNat.toUInt8)) ∧ w' = w := Any.bytes_IndexByte Tryz.lays187 b o n c xs cv w hx hc
end Go.Proofs
/- Format, the plain law: what a pattern with values is, over lists of bytes. -/
namespace Go.Proofs.YtmciepkhpocafaaGreat
open Go Go.Eng
set_option maxHeartbeats 4000000
set_option linter.unusedSimpArgs false
set_option linter.unusedVariables false

/-- A text of bytes. -/
def bs (l : List UInt8) : ByteArray := ⟨l.toArray⟩
def ofU (l : List UInt8) : List Int := l.map fun c => (c.toNat : Int)
theorem mk_bs (l : List UInt8) : (⟨l.toArray⟩ : ByteArray) = bs l := rfl
theorem bs_of (x : ByteArray) : bs x.data.toList = x := by obtain ⟨⟨x⟩⟩ := x; rfl
theorem bs_data (l : List UInt8) : (bs l).data.toList = l := rfl
theorem bs_size (l : List UInt8) : (bs l).size = l.length := rfl
theorem bs_inj {l m : List UInt8} : bs l = bs m ↔ l = m := ⟨fun h => by rw [← bs_data l, h, bs_data], fun h => by rw [h]⟩
theorem bs_cut (l : List UInt8) (a b : Nat) : (bs l).extract a b = bs ((l.take b).drop a) := by
  apply ByteArray.ext
  simp [bs, ByteArray.data_extract, List.drop_take]
theorem bs_app (l m : List UInt8) : bs l ++ bs m = bs (l ++ m) := by
  apply ByteArray.ext
  simp [bs, ByteArray.data_append]
theorem bs_at (l : List UInt8) (i : Int) : byteAt (bs l) i = (((l[i.toNat]?).getD 0).toNat : Int) := by
  unfold byteAt
  congr 2
  show ((bs l)[i.toNat]?).getD 0 = _
  congr 1
  by_cases h : i.toNat < l.length
  · rw [getElem?_pos _ _ (by simpa [bs_size] using h), List.getElem?_eq_getElem h]
    rfl
  · rw [getElem?_neg _ _ (by simpa [bs_size] using h), List.getElem?_eq_none (by omega)]
theorem bs_at0 (c : UInt8) (l : List UInt8) : byteAt (bs (c :: l)) 0 = (c.toNat : Int) := by rw [bs_at]; rfl
theorem bs_beq (l m : List UInt8) : ((bs l).toList == (bs m).toList) = (l == m) := by
  rw [ByteArray.toList_eq, ByteArray.toList_eq, bs_data, bs_data]
theorem bs_tl (l m : List UInt8) : ((bs l).toList = (bs m).toList) = (l = m) := by
  rw [ByteArray.toList_eq, ByteArray.toList_eq, bs_data, bs_data]
theorem bs_str (l : List UInt8) : strOf (ofU l) = bs l := by
  unfold strOf ofU bs
  congr 2
  rw [List.map_map]
  conv => rhs; rw [← List.map_id l]
  apply List.map_congr_left
  intro c _
  simp
theorem bs_bytes (l : List UInt8) : bytesOf (bs l) = ofU l := rfl
theorem idx_bs (l : List UInt8) (c : UInt8) : idxB (bs l) (c.toNat : Int) = Go.Lib.indexByte l c := by
  unfold idxB
  rw [bs_data]
  congr 1
  simp
theorem indexU_c (s : List UInt8) (c : UInt8) : Contract Tryz.prog 49 nilSS [.s (bs s), .i .u8 (c.toNat : Int)] (fun sv post => sv = .i .i64 (Go.Lib.indexByte s c) ∧ post = nilSS) := by
  have h := index_c (bs s) (c.toNat : Int)
  rw [idx_bs] at h
  exact h
theorem idx_nn (l : List UInt8) (c : UInt8) : 0 ≤ Go.Lib.indexByte l c ↔ l.contains c = true := by rw [Go.Lib.contains_iff_indexByte]; simp
theorem ofU_app (l m : List UInt8) : ofU (l ++ m) = ofU l ++ ofU m := by simp [ofU]
theorem ofU_len (l : List UInt8) : (ofU l).length = l.length := by simp [ofU]
theorem ofU_inj {l m : List UInt8} : ofU l = ofU m ↔ l = m := ⟨fun h => by
  have := congrArg strOf h
  rw [bs_str, bs_str] at this
  exact bs_inj.1 this, fun h => by rw [h]⟩
theorem idx_ng (l : List UInt8) (c : UInt8) : Go.Lib.indexByte l c < 0 ↔ l.contains c = false := by
  have := idx_nn l c
  cases h : l.contains c <;> rw [h] at this <;> simp at this ⊢ <;> omega
theorem u8c (c : UInt8) : ((c.toNat : Int)).toNat.toUInt8 = c := by simp
theorem u8_lt (c : UInt8) : c.toNat < 256 := by simpa using c.toNat_lt

/-! The directive at the beginning of a text behind its percent sign. -/
def isDig (c : UInt8) : Bool := decide (48 ≤ c.toNat) && decide (c.toNat ≤ 57)
def flagSet : List UInt8 := [45, 43, 48, 32]
def verbSet : List UInt8 := [100, 117, 120, 88, 111, 99, 115]
def flagsP : List UInt8 → List UInt8 → List UInt8 × List UInt8
  | acc, [] => (acc, [])
  | acc, c :: r => if flagSet.contains c && !acc.contains c then flagsP (acc ++ [c]) r else (acc, c :: r)
def digsP : Nat → List UInt8 → List UInt8
  | 0, _ => []
  | _, [] => []
  | n + 1, c :: r => if isDig c then c :: digsP n r else []
def valP (l : List UInt8) : Nat := l.foldl (fun n c => 10 * n + (c.toNat - 48)) 0
structure Dir where
  flags : List UInt8
  width : Nat
  prec : Int
  verb : UInt8
  size : Nat
deriving DecidableEq, Repr
def precP (r : List UInt8) : Int × List UInt8 :=
  match r with
  | [] => (-1, [])
  | c :: r => if c = 46 then ((valP (digsP 4 r) : Int), r.drop (digsP 4 r).length) else (-1, c :: r)
def headIs (c : UInt8) : List UInt8 → Bool
  | [] => false
  | d :: _ => d == c
def verbP (fl : List UInt8) (w : Nat) (p : Int) (n : Nat) : List UInt8 → Option Dir
  | [] => none
  | v :: r => if verbSet.contains v && decide (w ≤ 4096) && decide (p ≤ 4096) then some ⟨fl, w, p, v, n - r.length⟩ else none
def widthP (fl : List UInt8) (n : Nat) (r : List UInt8) : Option Dir :=
  if headIs 48 (digsP 4 r) then none
  else verbP fl (valP (digsP 4 r)) (precP (r.drop (digsP 4 r).length)).1 n (precP (r.drop (digsP 4 r).length)).2
def parseP (l : List UInt8) : Option Dir :=
  if headIs 37 l then some ⟨[], 0, -1, 37, 2⟩
  else widthP (flagsP [] l).1 (l.length + 1) (flagsP [] l).2

/-! A value as a text. -/
structure AV where
  kind : Int
  n : Int
  u : Int
  t : List UInt8
deriving DecidableEq, Repr
structure AV.ok (a : AV) : Prop where
  n0 : -9223372036854775808 ≤ a.n
  n1 : a.n ≤ 9223372036854775807
  u0 : 0 ≤ a.u
  u1 : a.u ≤ 18446744073709551615
def dchar (d : Nat) : UInt8 := if d < 10 then UInt8.ofNat (48 + d) else UInt8.ofNat (87 + d)
def lowF : Nat → Nat → Nat → List UInt8
  | 0, _, _ => []
  | f + 1, n, b => dchar (n % b) :: (if n / b = 0 then [] else lowF f (n / b) b)
def placesP (n b : Nat) : List UInt8 := (lowF 64 n b).reverse
def upC (c : UInt8) : UInt8 := if decide (97 ≤ c.toNat) && decide (c.toNat ≤ 122) then c - 32 else c
def baseP (v : UInt8) : Nat := if v = 120 then 16 else if v = 88 then 16 else if v = 111 then 8 else 10
def wantsP (v : UInt8) : Int := if v = 100 then 1 else if v = 99 then 3 else if v = 115 then 4 else 2
def signP (d : Dir) (a : AV) : List UInt8 :=
  if d.verb = 100 then (if a.n < 0 then [45] else if d.flags.contains 43 then [43] else if d.flags.contains 32 then [32] else []) else []
def magP (d : Dir) (a : AV) : Nat := if d.verb = 100 then a.n.natAbs else a.u.toNat
def barP (d : Dir) (a : AV) : List UInt8 := if magP d a = 0 ∧ d.prec = 0 then [] else placesP (magP d a) (baseP d.verb)
def fillP (d : Dir) (a : AV) : List UInt8 := List.replicate (d.prec - (barP d a).length).toNat 48 ++ barP d a
def digitsP (d : Dir) (a : AV) : List UInt8 := if d.verb = 88 then (fillP d a).map upC else fillP d a
def coreP (d : Dir) (a : AV) : List UInt8 × List UInt8 :=
  if d.verb = 99 then ([], [UInt8.ofNat a.u.toNat])
  else if d.verb = 115 then ([], if 0 ≤ d.prec then a.t.take d.prec.toNat else a.t)
  else (signP d a, digitsP d a)
def layP (d : Dir) (sign s : List UInt8) : List UInt8 :=
  if d.flags.contains 45 then sign ++ s ++ List.replicate (d.width - sign.length - s.length) 32
  else if d.flags.contains 48 && (d.verb != 99 && d.verb != 115) && decide (d.prec < 0) then sign ++ List.replicate (d.width - sign.length - s.length) 48 ++ s
  else List.replicate (d.width - sign.length - s.length) 32 ++ sign ++ s
def textP (d : Dir) (a : AV) : List UInt8 := layP d (coreP d a).1 (coreP d a).2

/-! A pattern with its values: the text, the fault, its place. -/
def fitP (d : Dir) (a : AV) : Bool := a.kind == wantsP d.verb && !(a.kind == 3 && decide (255 < a.u))
def fmtF : Nat → Nat → List UInt8 → List AV → List UInt8 → List UInt8 × Int × Nat
  | 0, at_, _, _, out => (out, 0, at_)
  | f + 1, at_, [], args, out => if args.length = 0 then (out, 0, at_) else ([], 3, at_)
  | f + 1, at_, c :: r, args, out =>
    if c = 37 then
      match parseP r with
      | none => ([], 171, at_)
      | some d =>
        if d.verb = 37 then (if 65536 < out.length + 1 then ([], 5, at_) else fmtF f (at_ + d.size) ((c :: r).drop d.size) args (out ++ [37]))
        else
          match args with
          | [] => ([], 3, at_)
          | a :: more =>
            if fitP d a then (if 65536 < out.length + (textP d a).length then ([], 5, at_) else fmtF f (at_ + d.size) ((c :: r).drop d.size) more (out ++ textP d a))
            else ([], 1, at_)
    else (if 65536 < out.length + 1 then ([], 5, at_) else fmtF f (at_ + 1) r args (out ++ [c]))
def formatP (l : List UInt8) (args : List AV) : List UInt8 × Int × Nat :=
  if 65536 < l.length then ([], 5, 0) else fmtF (l.length + 1) 0 l args []

theorem digsP_le : ∀ (n : Nat) (l : List UInt8), (digsP n l).length ≤ n ∧ (digsP n l).length ≤ l.length
  | 0, l => by simp [digsP]
  | n + 1, [] => by simp [digsP]
  | n + 1, c :: r => by
    have := digsP_le n r
    simp only [digsP]
    split <;> simp <;> omega
theorem digsP_take : ∀ (n : Nat) (l : List UInt8), digsP n l = l.take (digsP n l).length
  | 0, l => by simp [digsP]
  | n + 1, [] => by simp [digsP]
  | n + 1, c :: r => by
    simp only [digsP]
    split
    · simp only [List.length_cons, List.take_succ_cons]
      rw [← digsP_take n r]
    · simp
theorem flagsP_len : ∀ (l acc : List UInt8), (flagsP acc l).2.length + (flagsP acc l).1.length = l.length + acc.length
  | [], acc => by simp [flagsP]
  | c :: r, acc => by
    simp only [flagsP]
    split
    · rw [flagsP_len r]; simp; omega
    · simp
theorem precP_len (r : List UInt8) : (precP r).2.length ≤ r.length := by
  unfold precP
  split
  · simp
  · split
    · simp; omega
    · simp
theorem parseP_size {l : List UInt8} {d : Dir} (h : parseP l = some d) : 2 ≤ d.size ∧ (d.verb ≠ 37 → d.size ≤ l.length + 1 ∧ 1 ≤ l.length) ∧ (d.verb = 37 → d.size = 2 ∧ headIs 37 l = true) ∧ d.width ≤ 4096 ∧ -1 ≤ d.prec ∧ d.prec ≤ 4096 := by
  unfold parseP at h
  split at h
  · rename_i hh
    simp only [Option.some.injEq] at h
    subst h
    exact ⟨by simp, by simp, fun _ => ⟨rfl, hh⟩, by simp, by simp, by simp⟩
  · unfold widthP at h
    split at h
    · cases h
    · have h1 := flagsP_len l []
      have h2 := digsP_le 4 (flagsP [] l).2
      have h3 := precP_len ((flagsP [] l).2.drop (digsP 4 (flagsP [] l).2).length)
      have h4 : -1 ≤ (precP ((flagsP [] l).2.drop (digsP 4 (flagsP [] l).2).length)).1 := by
        unfold precP
        split
        · simp
        · split
          · simp only; omega
          · simp
      generalize precP ((flagsP [] l).2.drop (digsP 4 (flagsP [] l).2).length) = q at h h3 h4
      obtain ⟨p, r⟩ := q
      cases r with
      | nil => simp [verbP] at h
      | cons v r =>
        simp only [verbP] at h
        split at h
        · rename_i hv
          simp only [Option.some.injEq] at h
          subst h
          simp only [List.length_drop, List.length_cons, List.length_nil] at h1 h3 h4 ⊢
          simp only [Bool.and_eq_true, decide_eq_true_eq] at hv
          refine ⟨by omega, fun _ => by omega, fun e => ?_, hv.1.2, h4, hv.2⟩
          subst e
          have : verbSet.contains 37 = false := by decide
          rw [this] at hv
          simp at hv
        · cases h
end Go.Proofs.YtmciepkhpocafaaGreat
/- Contracts of the library that the shelf lays, as contracts of the engine. -/
namespace Go.Proofs.YtmciepkhpocafaaGreat
open Go Go.Eng
set_option maxHeartbeats 4000000
set_option linter.unusedSimpArgs false
set_option linter.unusedVariables false
set_option maxRecDepth 100000

theorem hasPrefix_c (s p : List UInt8) : Contract Tryz.prog 47 nilSS [.s (bs s), .s (bs p)] (fun sv post => sv = .b (Go.Lib.hasPrefix s p) ∧ post = nilSS) := by
  refine contract_lib Tryz.func47 rfl rfl ?_
  intro E w vs hv
  obtain ⟨v1, r1, rfl, h1, hv⟩ := denL_cons hv
  obtain ⟨v2, r2, rfl, h2, hv⟩ := denL_cons hv
  obtain rfl := denL_nil hv
  simp only [Den] at h1 h2
  subst h1 h2
  refine (Tryz.strings_HasPrefix (bs s) (bs p) w).mono ?_
  rintro e w' ⟨rfl, rfl⟩
  exact ⟨_, rfl, fun E' _ => by simp only [Den]; rfl, RowKit.Below.refl _ _⟩
end Go.Proofs.YtmciepkhpocafaaGreat
/- bytes.Buffer: what has been written. -/
namespace Go.Proofs.YtmciepkhpocafaaGreat
open Go Go.Eng
set_option maxHeartbeats 4000000
set_option linter.unusedSimpArgs false
set_option linter.unusedVariables false
set_option maxRecDepth 100000

theorem contract_rowz {P : Program} {f : FuncId} {s : SS} {pargs : List SV} {R : SV → SS → Prop} (r : Nat) {T : TypeId} {k : IntKind} {p : Option Addr} {cap : Nat} {l : List Int} (hr : rsFind s.rs r = some (RowZ T k p cap l))
    (h : l.length ≤ cap → cap ≤ 9223372036854775807 → (cap ≠ 0 → p ≠ none) → (p = none → cap = 0) → Contract P f s pargs R) : Contract P f s pargs R := by
  intro E w vs h0 hw hv
  obtain ⟨κ, ho⟩ := hw.own
  obtain ⟨F, ⟨q0, q1, q2⟩, _⟩ := ho.rs _ _ (rsFind_mem _ _ _ hr)
  refine h q0 q1 (fun hc => ?_) (fun hp => ?_) E w vs h0 hw hv
  · rcases q2 with ⟨_, e⟩ | ⟨b, cs, rfl, _⟩
    · exact absurd e hc
    · simp
  · rcases q2 with ⟨_, e⟩ | ⟨b, cs, rfl, _⟩
    · exact e
    · cases hp

theorem showsIn_cut {p : Option Addr} {c : Nat} {l : List Int} {i n : Nat} (h : i ≤ l.length) (hc : i + n ≤ c) : ShowsIn (cutp p c i) n p l c i := by
  refine ⟨h, hc, ?_⟩
  unfold cutp
  by_cases e : c = i
  · exact .inl (by omega)
  · exact .inr (by rw [if_neg e])

end Go.Proofs.YtmciepkhpocafaaGreat
/- The program's patterns: a directive is read. -/
namespace Go.Proofs.YtmciepkhpocafaaGreat
open Go Go.Eng
set_option maxHeartbeats 4000000
set_option linter.unusedSimpArgs false
set_option linter.unusedVariables false
set_option maxRecDepth 100000

def decs : List UInt8 := [48, 49, 50, 51, 52, 53, 54, 55, 56, 57]
theorem decs_has (c : UInt8) : decs.contains c = isDig c := by
  have h : ∀ n : Fin 256, decs.contains (UInt8.ofNat n.1) = isDig (UInt8.ofNat n.1) := by decide
  have := h ⟨c.toNat, u8_lt c⟩
  simpa using this
theorem digsP_step (m : Nat) (l : List UInt8) (h : 0 < m) : digsP m l = match l with | [] => [] | c :: r => if isDig c then c :: digsP (m - 1) r else [] := by
  obtain ⟨k, rfl⟩ : ∃ k, m = k + 1 := ⟨m - 1, by omega⟩
  cases l <;> rfl
theorem drop_cons {l : List UInt8} {n : Nat} (h : n < l.length) : l.drop n = l[n] :: l.drop (n + 1) := List.drop_eq_getElem_cons h
theorem getD_lt {l : List UInt8} {n : Nat} (h : n < l.length) : (l[n]?).getD 0 = l[n] := by rw [List.getElem?_eq_getElem h]; rfl

theorem digs_next {m n : Nat} {l : List UInt8} (hn : n < m) (hl : n < l.length) (hd : isDig ((l[n]?).getD 0) = true) (h3 : digsP m l = l.take n ++ digsP (m - n) (l.drop n)) : digsP m l = l.take (n + 1) ++ digsP (m - (n + 1)) (l.drop (n + 1)) := by
  rw [getD_lt hl] at hd
  rw [h3, drop_cons hl, digsP_step _ _ (by omega)]
  simp only [hd, if_true]
  rw [← List.take_append_getElem hl, List.append_assoc, show m - n - 1 = m - (n + 1) by omega]
  rfl
theorem digs_stop {m n : Nat} {l : List UInt8} (h : m ≤ n ∨ l.length ≤ n ∨ isDig ((l[n]?).getD 0) = false) (h3 : digsP m l = l.take n ++ digsP (m - n) (l.drop n)) : digsP m l = l.take n := by
  have e : digsP (m - n) (l.drop n) = [] := by
    by_cases h1 : m ≤ n
    · rw [show m - n = 0 by omega]; rfl
    by_cases h2 : l.length ≤ n
    · rw [List.drop_of_length_le h2, digsP_step _ _ (by omega)]
    rw [drop_cons (by omega), digsP_step _ _ (by omega)]
    rcases h with h | h | h
    · exact absurd h h1
    · exact absurd h h2
    · rw [getD_lt (by omega)] at h
      simp [h]
  rw [h3, e, List.append_nil]

theorem decode_bs {l : List UInt8} {i : Nat} (h : i < l.length) (ha : l[i].toNat < 128) : Utf8.decode (bs l) i = (l[i].toNat, 1) := by
  have e : (bs l).get! (i + 0) = l[i] := by
    show (l.toArray)[i + 0]! = _
    simp [h]
  unfold Utf8.decode
  simp only [e]
  rw [if_pos (by omega)]
theorem valP_app (l : List UInt8) (c : UInt8) : valP (l ++ [c]) = 10 * valP l + (c.toNat - 48) := by simp [valP]
theorem valP_lt : ∀ (n : Nat) (l : List UInt8), l.length = n → (∀ c, c ∈ l → isDig c = true) → valP l < 10 ^ n
  | 0, l, h, _ => by
    obtain rfl := List.eq_nil_of_length_eq_zero h
    simp [valP]
  | n + 1, l, h, hd => by
    have hne : l ≠ [] := by rintro rfl; simp at h
    have e := List.dropLast_concat_getLast hne
    have h1 := valP_lt n l.dropLast (by simp [h]) (fun c hc => hd c (List.dropLast_subset _ hc))
    have h2 := hd _ (List.getLast_mem hne)
    rw [← e, valP_app]
    simp only [isDig, Bool.and_eq_true, decide_eq_true_eq] at h2
    rw [Nat.pow_succ]
    omega
theorem digsP_dig : ∀ (n : Nat) (l : List UInt8) (c : UInt8), c ∈ digsP n l → isDig c = true
  | 0, l, c, h => by simp [digsP] at h
  | n + 1, [], c, h => by simp [digsP] at h
  | n + 1, d :: r, c, h => by
    simp only [digsP] at h
    split at h
    · rename_i hd
      rcases List.mem_cons.1 h with rfl | h
      · exact hd
      · exact digsP_dig n r c h
    · simp at h

end Go.Proofs.YtmciepkhpocafaaGreat
