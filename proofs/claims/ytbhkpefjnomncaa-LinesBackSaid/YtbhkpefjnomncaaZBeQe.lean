/- Texts joined, in order: Be, Pd, Pe, Qa, Qb, Lb, Qd, Ma, Mb, Me, Qe. -/
import Derived.Test.YtbhkpefjnomncaaZCaRl
import Derived.Test.YtbhkpefjnomncaaZLaKa
import Derived.Test.YtbhkpefjnomncaaZBaCe
import Derived.Test.YtbhkpefjnomncaaZKbPc
import Derived.Lib.Mul64
/- How many writes and reads a stream over counters makes. -/
namespace Go.Proofs.Ytbhkpefjnomncaa
open Go Go.Eng
set_option maxHeartbeats 4000000
set_option linter.unusedSimpArgs false
set_option linter.unusedVariables false

theorem wr_len (m s : Int) : ∀ (t : List Int) (n : Int), (wr m s t n).length ≤ t.length + 1
  | [], n => by rw [wr]; split <;> simp
  | c :: r, n => by
    rw [wr]
    split
    · have := wr_len m s r 0; simp only [List.length_cons]; omega
    · have := wr_len m s r (n + 1); simp only [List.length_cons]; omega

/-- A stream that writes a text onto a counter: the writes that have been made, and those to come. -/
structure Counts (x : St) (g : List Int × Int) (text : List Int) (i : Nat) : Prop where
  holds : Holds x g (text.take i)
  n0 : 0 ≤ g.2
  lt : (x.o.length : Int) < x.s
  cnt : g.2 + ((wr x.m x.s (text.drop i) x.o.length).length : Nat) = ((wr x.m x.s text 0).length : Nat)

theorem new_counts (text : List Int) {m s : Int} (h : mayV m s = 0) : Counts (newSt false true m s) ([], 0) text 0 := by
  have e := newSt_ok false true h
  obtain ⟨a1, a2, a3, a4⟩ := may_zero' h
  refine ⟨by rw [List.take_zero]; exact new_holds h, Int.le_refl _, by rw [e]; simp; omega, by rw [e]; simp⟩

theorem count_put (b : Nat) {x : St} {g : List Int × Int} {text : List Int} {i : Nat} (h : Counts x g text i) (hi : i < text.length) (hl : text.length ≤ 1048576) :
    ∃ x' g', x.Put (counterM b) g (text.getD i 0) = (x', g', 0) ∧ Counts x' g' text (i + 1) ∧ x'.m = x.m ∧ x'.s = x.s := by
  obtain ⟨h, n0, hlt, hcnt⟩ := h
  have hb := h.bErr
  have htake : text.take (i + 1) = text.take i ++ [text.getD i 0] := by
    rw [List.take_succ_eq_append_getElem hi]; simp [List.getD, hi]
  have hwl := wr_len x.m x.s text 0
  obtain ⟨r, w, m, s, o, i0, k, d, en, bad, cl⟩ := x
  obtain ⟨h1, h2, h3, h4, h5, h6, h7⟩ := h
  simp only at h2 h3 h4 h5 h6 h7 hlt hcnt hwl
  subst h2 h3 h5 h6
  obtain ⟨m1, m2, m3, m4, m5, m6, m7⟩ := h1
  simp only at m1 m2 m3
  obtain ⟨a1, a2, a3, a4⟩ := may_zero' m1
  have mk : ∀ (o' : List Int), o'.length ≤ s → (¬ m = 1 ∨ o'.length = 0) → St.May ⟨r, true, m, s, o', [], [], 2, en, bad, false⟩ := fun o' q1 q2 =>
    ⟨m1, q1, q2, by simp, by simp, .inl rfl, .inr (.inr ⟨rfl, rfl, rfl, rfl⟩)⟩
  have hwe : St.wErr ⟨r, true, m, s, o, [], [], d, en, bad, false⟩ = 0 := by simp [St.wErr, h4]
  have hnote : ∀ (y : St), y.noted 0 = y := fun y => by simp [St.noted]
  have hd := wr_drop m s text i hi o.length
  generalize text.getD i 0 = c at htake hd ⊢
  have hwrap : ∀ q : Nat, g.2 + ((q + 1 : Nat) : Int) = ((wr m s text 0).length : Nat) → IntKind.i64.wrap (g.2 + 1) = g.2 + 1 := fun q hq => wrap64 (by omega) (by omega)
  unfold St.Put St.put
  rw [if_neg (by rw [hb]; simp), if_neg (by rw [hwe]; simp)]
  dsimp only
  split
  · rename_i hm
    have ho : o = [] := by
      have : o.length = 0 := by omega
      simpa using this
    subst ho
    rw [counter_putV, hnote]
    rw [if_pos (.inl hm)] at hd
    rw [hd] at hcnt
    simp only [List.length_cons] at hcnt
    have hw := hwrap _ hcnt
    refine ⟨_, _, rfl, ⟨⟨mk [] (by simp; omega) (.inr rfl), rfl, rfl, by simp, rfl, rfl, ?_⟩, ?_, by simp; omega, ?_⟩, rfl, rfl⟩
    · rw [htake, ← h7]; simp
    · dsimp only; rw [if_neg (by simp), hw]; omega
    · dsimp only; rw [if_neg (by simp), hw]; simp only [List.length_nil, Int.natCast_zero]; omega
  · rename_i hm
    rw [if_neg (by omega)]
    unfold St.put1
    dsimp only
    have hol : (o ++ [c]).length = o.length + 1 := by simp
    split
    · rename_i hc
      rw [if_pos (by rw [hol] at hc; omega)] at hd
      rw [hd] at hcnt
      simp only [List.length_cons] at hcnt
      have hw := hwrap _ hcnt
      have hdel : St.deliver (counterM b) ⟨r, true, m, s, o ++ [c], [], [], 2, en, bad, false⟩ g = (⟨r, true, m, s, [], [], [], 2, en, bad, false⟩, (g.1 ++ (o ++ [c]), g.2 + 1), 0) := by
        unfold St.deliver
        dsimp only
        rw [counter_putV, hnote, if_neg (by simp), hw]
        rfl
      rw [hdel]
      refine ⟨_, _, rfl, ⟨⟨mk [] (by simp; omega) (.inr rfl), rfl, rfl, by simp, rfl, rfl, ?_⟩, ?_, by simp; omega, ?_⟩, rfl, rfl⟩
      · rw [htake, ← h7]; simp
      · dsimp only; omega
      · dsimp only; simp only [List.length_nil, Int.natCast_zero]; omega
    · rename_i hc
      rw [if_neg (by rw [hol] at hc; omega)] at hd
      rw [hd] at hcnt
      refine ⟨_, _, rfl, ⟨⟨mk (o ++ [c]) (by rw [hol]; omega) (.inl hm), rfl, rfl, by simp, rfl, rfl, ?_⟩, n0, ?_, ?_⟩, rfl, rfl⟩
      · rw [htake, ← h7]; simp
      · dsimp only; rw [hol] at hc ⊢; omega
      · dsimp only; rw [hol]; exact hcnt

theorem count_close (b : Nat) {x : St} {g : List Int × Int} {text : List Int} (h : Counts x g text text.length) (hl : text.length ≤ 1048576) :
    ∃ x' n, x.Close (counterM b) g = (x', (text, n), 0) ∧ n = ((wr x.m x.s text 0).length : Nat) := by
  obtain ⟨h, n0, hlt, hcnt⟩ := h
  have hb := h.bErr
  have hwl := wr_len x.m x.s text 0
  have heq := h.eq
  rw [List.take_length] at heq
  rw [List.drop_length, wr] at hcnt
  unfold St.Close St.deliver
  rw [if_neg (by rw [hb]; simp)]
  dsimp only
  rw [counter_putV, heq]
  refine ⟨_, _, rfl, ?_⟩
  by_cases ho : x.o = []
  · rw [if_pos ho]
    rw [ho] at hcnt
    simp at hcnt
    exact hcnt
  · have hp := List.length_pos_iff.2 ho
    rw [if_neg ho]
    rw [if_pos (by omega)] at hcnt
    simp only [List.length_cons, List.length_nil] at hcnt
    rw [wrap64 (by omega) (by omega), ← hcnt]
    simp

theorem pcs_spec {u x : Int} (h : 1 ≤ u) : x ≤ u * pcs u x ∧ u * pcs u x < x + u := by
  unfold pcs
  have h1 := Int.emod_add_mul_ediv (x + u - 1) u
  have h2 := Int.emod_nonneg (x + u - 1) (show u ≠ 0 by omega)
  have h3 := Int.emod_lt_of_pos (x + u - 1) (show 0 < u by omega)
  omega
theorem pcs_uniq {u x k : Int} (h : 1 ≤ u) (h1 : x ≤ u * k) (h2 : u * k < x + u) : pcs u x = k := by
  obtain ⟨q1, q2⟩ := pcs_spec (x := x) h
  have a : pcs u x - k < 1 := by
    refine Int.lt_of_mul_lt_mul_left (a := u) ?_ (by omega)
    rw [Int.mul_sub]; omega
  have b : k - pcs u x < 1 := by
    refine Int.lt_of_mul_lt_mul_left (a := u) ?_ (by omega)
    rw [Int.mul_sub]; omega
  omega

theorem counterR_some (data : List Int) (b : Nat) (g : Int × Int) (n : Int) (h0 : 0 ≤ g.1) (h1 : g.1 ≤ data.length) (hn : 0 ≤ n) :
    someV (counterRM data b) g n = ((g.1 + (readV data g.1 n).length, IntKind.i64.wrap (g.2 + 1)), readV data g.1 n, 0) := by
  have hl := readV_len data g.1 n h0 h1 hn
  obtain ⟨F, hF⟩ : ∃ F, 8192 = F + 1 := ⟨8191, rfl⟩
  have e0 : someV (counterRM data b) g n = RawM.some (counterRM data b) n (F + 1) g := by unfold someV; rw [hF]
  rw [e0]
  simp only [RawM.some]
  have e : (counterRM data b).rd g n = ((g.1 + (readV data g.1 n).length, IntKind.i64.wrap (g.2 + 1)), readV data g.1 n, 0) := rfl
  rw [e]
  dsimp only
  rw [if_neg (by omega), if_neg (by simp), if_neg (by omega)]
  rfl

/-- A stream that reads a counter's data: where it is behind so many calls. -/
structure RCounts (x : St) (g : Int × Int) (data : List Int) (i : Nat) : Prop where
  may : x.May
  r : x.r = true
  cl : x.cl = false
  d : x.d ≠ 2
  k : x.k = []
  o : x.o = []
  g0 : 0 ≤ g.1
  g1 : g.1 ≤ data.length
  n0 : 0 ≤ g.2
  n1 : g.2 ≤ i
  on : i ≤ data.length → x.en = false ∧ i ≤ g.1.toNat ∧ x.i = (data.take g.1.toNat).drop i ∧ (g.1 ≤ askV x.m x.s * g.2 ∧ (g.1 = data.length ∨ g.1 = askV x.m x.s * g.2)) ∧ g.2 = pcs (askV x.m x.s) i
  off : data.length < i → x.en = true ∧ x.i = [] ∧ g.2 = pcs (askV x.m x.s) data.length + 1

theorem RCounts.bErr {x : St} {g : Int × Int} {data : List Int} {i : Nat} (h : RCounts x g data i) : x.bErr = 0 := by
  unfold St.bErr; rw [if_pos h.may, if_neg (by simp [h.cl])]
theorem RCounts.fits {x : St} {g : Int × Int} {data : List Int} {i : Nat} (h : RCounts x g data i) : x.fits := by
  obtain ⟨b1, b2, b3, b4⟩ := May.bd h.may
  exact ⟨by omega, by omega, by omega⟩

theorem new_rcounts (data : List Int) {m s : Int} (h : mayV m s = 0) : RCounts (newSt true false m s) (0, 0) data 0 := by
  have e := newSt_ok true false h
  obtain ⟨a1, a2⟩ := ask_rng h
  refine ⟨newSt_may true false h, by rw [e], by rw [e], by rw [e]; simp, by rw [e], by rw [e], Int.le_refl _, by simp, Int.le_refl _, by simp, fun _ => ⟨by rw [e], by simp, by rw [e]; simp, ⟨by simp, .inr (by simp)⟩, ?_⟩, fun h => absurd h (by omega)⟩
  rw [e]
  exact (pcs_zero a1).symm

theorem rcount_get (data : List Int) (b : Nat) {x : St} {g : Int × Int} {i : Nat} (h : RCounts x g data i) (hl : data.length ≤ 1048576) (hi : i ≤ 1048576) :
    ∃ x' g' c e, x.Get (counterRM data b) g = (x', g', c, e) ∧ RCounts x' g' data (i + 1) ∧ x'.m = x.m ∧ x'.s = x.s ∧ (i < data.length → c = data.getD i 0 ∧ e = 0) := by
  have hb := h.bErr
  obtain ⟨r, w, m, s, o, iv, k, d, en, bad, cl⟩ := x
  obtain ⟨h1, h2, h3, h4, h5, h6, p0, p1, n0, n1, hon, hoff⟩ := h
  simp only at h2 h3 h4 h5 h6 hon hoff
  subst h2 h3 h5 h6
  obtain ⟨p, n⟩ := g
  simp only at p0 p1 n0 n1 hon hoff
  obtain ⟨b1, b2, b3, b4⟩ := May.bd h1
  simp only at b1 b3
  obtain ⟨u1, u2⟩ := ask_rng b1
  have hnote : ∀ (y : St), y.noted 0 = y := fun y => by simp [St.noted]
  unfold St.Get
  rw [if_neg (by rw [hb]; simp)]
  unfold St.get
  try dsimp only
  rw [if_neg (by simp), if_neg h4, if_neg (by simp)]
  by_cases hlt : i ≤ data.length
  · obtain ⟨rfl, hp, hiv, ⟨hpu0, hpe⟩, hn⟩ := hon hlt
    by_cases hne : iv = []
    · -- a read
      rw [if_neg (by simp [hne])]
      have hip : i = p.toNat := by
        rw [hne] at hiv
        have := congrArg List.length hiv
        simp at this
        omega
      unfold St.fill
      try dsimp only
      simp only [Bool.false_eq_true, if_false]
      have hw : IntKind.i64.wrap (n + 1) = n + 1 := wrap64 (by omega) (by omega)
      have hz : someV (counterRM data b) (p, n) (askV m s) = ((p + (readV data p (askV m s)).length, n + 1), readV data p (askV m s), 0) := by
        rw [counterR_some data b (p, n) _ p0 p1 (by omega)]
        try dsimp only
        rw [hw]
      by_cases hend : i = data.length
      · have hr : readV data p (askV m s) = [] := by unfold readV; rw [List.drop_of_length_le (by omega)]; simp
        have hz2 : someV (counterRM data b) (p, n) (askV m s) = ((p, n + 1), ([] : List Int), (0 : Int)) := by
          rw [hz, hr]; simp; rfl
        rw [hz2]
        try dsimp only
        rw [if_pos (show (0 : Int) = 0 ∧ ([] : List Int) = [] from ⟨rfl, rfl⟩)]
        try dsimp only
        rw [if_pos (by simp)]
        refine ⟨_, _, _, _, rfl, ⟨?_, rfl, rfl, by simp, rfl, rfl, ?_, ?_, ?_, ?_, fun h => absurd h (by omega), fun _ => ⟨rfl, hne, ?_⟩⟩, rfl, rfl, fun h => absurd h (by omega)⟩
        · rw [hne]; exact may_got h1 rfl rfl (by simp) (by simp)
        · (try dsimp only); (try simp); exact p0
        · (try dsimp only); (try simp); exact p1
        · (try dsimp only); omega
        · (try dsimp only); omega
        · dsimp only; rw [hn, hend]
      · have hr : (readV data p (askV m s)).length = min (askV m s).toNat (data.length - i) := by unfold readV; rw [List.length_take, List.length_drop, hip]
        have hrn : readV data p (askV m s) ≠ [] := by intro h0; rw [h0] at hr; simp at hr; omega
        have hseg0 : ∀ q : Nat, q = (readV data p (askV m s)).length → readV data p (askV m s) = (data.take (p + (q : Int)).toNat).drop i := by
          rintro q rfl
          rw [hip, List.drop_take, show (p + ((readV data p (askV m s)).length : Int)).toNat - p.toNat = (readV data p (askV m s)).length by omega, hr, hip]
          unfold readV
          rcases Nat.le_total (askV m s).toNat (data.length - p.toNat) with h | h
          · rw [Nat.min_eq_left h]
          · rw [Nat.min_eq_right h, List.take_of_length_le (by simp; omega), List.take_of_length_le (by simp)]
        have hget : i < data.length → (readV data p (askV m s)).getD 0 0 = data.getD i 0 := by
          intro hid
          unfold readV
          simp only [List.getD_eq_getElem?_getD]
          rw [List.getElem?_take, if_pos (by omega), List.getElem?_drop, hip]
          simp
        generalize readV data p (askV m s) = L at hz hr hrn hseg0 hget
        rw [hz]
        try dsimp only
        rw [if_neg (show ¬ ((0 : Int) = 0 ∧ L = []) from fun h => hrn h.2)]
        try dsimp only
        rw [hnote, if_neg (by simp)]
        have hpu : p = askV m s * n := by
          rcases hpe with hpe | hpe
          · omega
          · exact hpe
        have hmul : askV m s * (n + 1) = p + askV m s := by rw [Int.mul_add, ← hpu]; omega
        have hseg := hseg0 L.length rfl
        refine ⟨_, _, _, _, rfl, ⟨?_, rfl, rfl, by simp, rfl, rfl, ?_, ?_, ?_, ?_, fun hle => ⟨rfl, ?_, ?_, ?_, ?_⟩, fun h => absurd h (by omega)⟩, rfl, rfl, fun hid => ⟨?_, rfl⟩⟩
        · refine may_got h1 rfl rfl ?_ (by simp)
          try dsimp only
          rw [List.length_drop, List.length_append, hne, hr]
          simp
          omega
        · (try dsimp only); omega
        · (try dsimp only); omega
        · (try dsimp only); omega
        · (try dsimp only); omega
        · (try dsimp only); omega
        · try dsimp only
          rw [hne, List.nil_append]
          conv => lhs; rw [hseg]
          rw [List.drop_drop]
        · try dsimp only
          refine ⟨by rw [hmul]; omega, ?_⟩
          by_cases hfull : (askV m s).toNat ≤ data.length - i
          · right; rw [hmul]; omega
          · left; omega
        · try dsimp only
          exact (pcs_uniq u1 (by rw [hmul]; omega) (by rw [hmul]; omega)).symm
        · try dsimp only
          rw [hne, List.nil_append]
          exact hget hid
    · rw [if_pos hne]
      have hlen : iv.length = p.toNat - i := by rw [hiv, List.length_drop, List.length_take]; omega
      have hpos := List.length_pos_iff.2 hne
      obtain ⟨q1, q2⟩ := pcs_spec (u := askV m s) (x := (i : Int)) u1
      rw [← hn] at q1 q2
      refine ⟨_, _, _, _, rfl, ⟨?_, rfl, rfl, by simp, rfl, rfl, p0, p1, n0, ?_, fun hle => ⟨rfl, ?_, ?_, ⟨hpu0, hpe⟩, ?_⟩, fun h => absurd h (by omega)⟩, rfl, rfl, fun hid => ⟨?_, rfl⟩⟩
      · exact may_got h1 rfl rfl (by (try dsimp only); rw [List.length_drop]; omega) (by simp)
      · (try dsimp only); omega
      · (try dsimp only); omega
      · try dsimp only
        rw [hiv, List.drop_drop]
      · try dsimp only
        refine (pcs_uniq u1 ?_ (by omega)).symm
        omega
      · try dsimp only
        rw [hiv]
        simp only [List.getD_eq_getElem?_getD]
        rw [List.getElem?_drop, List.getElem?_take, if_pos (by omega)]
        simp
  · obtain ⟨rfl, rfl, hn⟩ := hoff (by omega)
    rw [if_neg (by simp)]
    unfold St.fill
    simp only [if_true]
    rw [if_pos (by simp)]
    refine ⟨_, _, _, _, rfl, ⟨may_got h1 rfl rfl (by simp) (by simp), rfl, rfl, by simp, rfl, rfl, p0, p1, n0, by dsimp only; omega, fun h => absurd h (by omega), fun _ => ⟨rfl, rfl, hn⟩⟩, rfl, rfl, fun h => absurd h (by omega)⟩
end Go.Proofs.Ytbhkpefjnomncaa
/- PositionTells: Tell behind a Seek tells its place; what is got there is what the Raw has there. -/
namespace Go.Proofs.Ytbhkpefjnomncaa
open Go Go.Eng
set_option maxHeartbeats 4000000
set_option linter.unusedSimpArgs false
set_option linter.unusedVariables false
set_option maxRecDepth 100000

def mod40 (n : Int) : Int := ((n.tmod 40) + 40).tmod 40
theorem mod40_rng (n : Int) : 0 ≤ mod40 n ∧ mod40 n < 40 ∧ IntKind.i64.wrap (n.tmod 40 + 40) = n.tmod 40 + 40 := by
  have h1 := Int.tmod_lt_of_pos n (show (0 : Int) < 40 by omega)
  have h2 := Int.lt_tmod_of_pos n (show (0 : Int) < 40 by omega)
  unfold mod40
  refine ⟨Int.tmod_nonneg _ (by omega), Int.tmod_lt_of_pos _ (by omega), wrap64 (by omega) (by omega)⟩

theorem positionTells_c (text : List Int) (m s gets off w : Int) : Contract Try.prog 8 nilSS [.ints .u8 .old text, .i .i64 m, .i .i64 s, .i .i64 gets, .i .i64 off, .i .i64 w] (fun sv post => sv = .b true ∧ post = nilSS) := by
  have hv : ∀ b, (growM b).v = .ifc 62 (.raw (.pointer (some ⟨b, 0, none⟩))) := fun b => rfl
  have hr : ∀ b (s : List Int × Int), (growM b).res s = growR b s.1 s.2 := fun b s => rfl
  refine contract_ev Γok Try.func8 rfl rfl [] ?_
  simp (maxSteps := 4000000) only [push_cast, Int.reduceEq, Int.reduceBNe, Int.reduceBEq, Int.reduceAdd, Int.reduceSub, Int.reduceMul, Int.reduceNeg, Int.reduceLT, Int.reduceLE, Int.reduceToNat, Nat.reduceLT, Nat.reduceAdd, Nat.reduceSub, Nat.reduceMul, Nat.reduceEqDiff, Nat.reduceLeDiff, Nat.reduceBEq, reduceIte, reduceCtorEq, Try.f8]
  refine call_w alive14_c [] (by simp (maxSteps := 4000000) only [push_cast, Int.reduceEq, Int.reduceBNe, Int.reduceBEq, Int.reduceAdd, Int.reduceSub, Int.reduceMul, Int.reduceNeg, Int.reduceLT, Int.reduceLE, Int.reduceToNat, Nat.reduceLT, Nat.reduceAdd, Nat.reduceSub, Nat.reduceMul, Nat.reduceEqDiff, Nat.reduceLeDiff, Nat.reduceBEq, reduceIte, reduceCtorEq]) ?_
  rintro sv post ⟨rfl, rfl⟩
  simp (maxSteps := 4000000) only [push_cast, Int.reduceEq, Int.reduceBNe, Int.reduceBEq, Int.reduceAdd, Int.reduceSub, Int.reduceMul, Int.reduceNeg, Int.reduceLT, Int.reduceLE, Int.reduceToNat, Nat.reduceLT, Nat.reduceAdd, Nat.reduceSub, Nat.reduceMul, Nat.reduceEqDiff, Nat.reduceLeDiff, Nat.reduceBEq, reduceIte, reduceCtorEq]
  by_cases hlen : text.length ≤ 1048576
  case neg =>
    refine call_w (newGrowLong_c text (by omega)) [] (by simp (maxSteps := 4000000) only [push_cast, Int.reduceEq, Int.reduceBNe, Int.reduceBEq, Int.reduceAdd, Int.reduceSub, Int.reduceMul, Int.reduceNeg, Int.reduceLT, Int.reduceLE, Int.reduceToNat, Nat.reduceLT, Nat.reduceAdd, Nat.reduceSub, Nat.reduceMul, Nat.reduceEqDiff, Nat.reduceLeDiff, Nat.reduceBEq, reduceIte, reduceCtorEq]) ?_
    rintro sv post ⟨rfl, rfl⟩
    simp (maxSteps := 4000000) only [push_cast, Int.reduceEq, Int.reduceBNe, Int.reduceBEq, Int.reduceAdd, Int.reduceSub, Int.reduceMul, Int.reduceNeg, Int.reduceLT, Int.reduceLE, Int.reduceToNat, Nat.reduceLT, Nat.reduceAdd, Nat.reduceSub, Nat.reduceMul, Nat.reduceEqDiff, Nat.reduceLeDiff, Nat.reduceBEq, reduceIte, reduceCtorEq]
    refine call_w (newS_c _ _ _ _ _ _ _ _ openR_c m s) [] (by simp (maxSteps := 4000000) only [push_cast, Int.reduceEq, Int.reduceBNe, Int.reduceBEq, Int.reduceAdd, Int.reduceSub, Int.reduceMul, Int.reduceNeg, Int.reduceLT, Int.reduceLE, Int.reduceToNat, Nat.reduceLT, Nat.reduceAdd, Nat.reduceSub, Nat.reduceMul, Nat.reduceEqDiff, Nat.reduceLeDiff, Nat.reduceBEq, reduceIte, reduceCtorEq, modeV]) ?_
    rintro sv post ⟨rfl, rfl⟩
    simp (maxSteps := 4000000) only [push_cast, Int.reduceEq, Int.reduceBNe, Int.reduceBEq, Int.reduceAdd, Int.reduceSub, Int.reduceMul, Int.reduceNeg, Int.reduceLT, Int.reduceLE, Int.reduceToNat, Nat.reduceLT, Nat.reduceAdd, Nat.reduceSub, Nat.reduceMul, Nat.reduceEqDiff, Nat.reduceLeDiff, Nat.reduceBEq, reduceIte, reduceCtorEq, St.sv, St.cells]
    refine call_w (num14_c 5) [] (by simp (maxSteps := 4000000) only [push_cast, Int.reduceEq, Int.reduceBNe, Int.reduceBEq, Int.reduceAdd, Int.reduceSub, Int.reduceMul, Int.reduceNeg, Int.reduceLT, Int.reduceLE, Int.reduceToNat, Nat.reduceLT, Nat.reduceAdd, Nat.reduceSub, Nat.reduceMul, Nat.reduceEqDiff, Nat.reduceLeDiff, Nat.reduceBEq, reduceIte, reduceCtorEq]) ?_
    rintro sv post ⟨rfl, rfl⟩
    simp (maxSteps := 4000000) only [push_cast, Int.reduceEq, Int.reduceBNe, Int.reduceBEq, Int.reduceAdd, Int.reduceSub, Int.reduceMul, Int.reduceNeg, Int.reduceLT, Int.reduceLE, Int.reduceToNat, Nat.reduceLT, Nat.reduceAdd, Nat.reduceSub, Nat.reduceMul, Nat.reduceEqDiff, Nat.reduceLeDiff, Nat.reduceBEq, reduceIte, reduceCtorEq]
    exact Fin.nil rfl (psv := .b true) (by simp (maxSteps := 4000000) only [push_cast, Int.reduceEq, Int.reduceBNe, Int.reduceBEq, Int.reduceAdd, Int.reduceSub, Int.reduceMul, Int.reduceNeg, Int.reduceLT, Int.reduceLE, Int.reduceToNat, Nat.reduceLT, Nat.reduceAdd, Nat.reduceSub, Nat.reduceMul, Nat.reduceEqDiff, Nat.reduceLeDiff, Nat.reduceBEq, reduceIte, reduceCtorEq]) ⟨rfl, rfl⟩
  refine call_w (newGrow_c text hlen) [] (by simp (maxSteps := 4000000) only [push_cast, Int.reduceEq, Int.reduceBNe, Int.reduceBEq, Int.reduceAdd, Int.reduceSub, Int.reduceMul, Int.reduceNeg, Int.reduceLT, Int.reduceLE, Int.reduceToNat, Nat.reduceLT, Nat.reduceAdd, Nat.reduceSub, Nat.reduceMul, Nat.reduceEqDiff, Nat.reduceLeDiff, Nat.reduceBEq, reduceIte, reduceCtorEq]) ?_
  rintro sv post ⟨b, rfl, rfl⟩
  simp (maxSteps := 4000000) only [push_cast, Int.reduceEq, Int.reduceBNe, Int.reduceBEq, Int.reduceAdd, Int.reduceSub, Int.reduceMul, Int.reduceNeg, Int.reduceLT, Int.reduceLE, Int.reduceToNat, Nat.reduceLT, Nat.reduceAdd, Nat.reduceSub, Nat.reduceMul, Nat.reduceEqDiff, Nat.reduceLeDiff, Nat.reduceBEq, reduceIte, reduceCtorEq]
  refine call_w (newS_c _ _ _ _ _ _ _ _ openR_c m s) [] (by simp (maxSteps := 4000000) only [push_cast, Int.reduceEq, Int.reduceBNe, Int.reduceBEq, Int.reduceAdd, Int.reduceSub, Int.reduceMul, Int.reduceNeg, Int.reduceLT, Int.reduceLE, Int.reduceToNat, Nat.reduceLT, Nat.reduceAdd, Nat.reduceSub, Nat.reduceMul, Nat.reduceEqDiff, Nat.reduceLeDiff, Nat.reduceBEq, reduceIte, reduceCtorEq, modeV]) ?_
  rintro sv post ⟨rfl, rfl⟩
  simp (maxSteps := 4000000) only [push_cast, Int.reduceEq, Int.reduceBNe, Int.reduceBEq, Int.reduceAdd, Int.reduceSub, Int.reduceMul, Int.reduceNeg, Int.reduceLT, Int.reduceLE, Int.reduceToNat, Nat.reduceLT, Nat.reduceAdd, Nat.reduceSub, Nat.reduceMul, Nat.reduceEqDiff, Nat.reduceLeDiff, Nat.reduceBEq, reduceIte, reduceCtorEq, St.sv, St.cells]
  refine call_w (num14_c 0) [] (by simp (maxSteps := 4000000) only [push_cast, Int.reduceEq, Int.reduceBNe, Int.reduceBEq, Int.reduceAdd, Int.reduceSub, Int.reduceMul, Int.reduceNeg, Int.reduceLT, Int.reduceLE, Int.reduceToNat, Nat.reduceLT, Nat.reduceAdd, Nat.reduceSub, Nat.reduceMul, Nat.reduceEqDiff, Nat.reduceLeDiff, Nat.reduceBEq, reduceIte, reduceCtorEq]) ?_
  rintro sv post ⟨rfl, rfl⟩
  simp (maxSteps := 4000000) only [push_cast, Int.reduceEq, Int.reduceBNe, Int.reduceBEq, Int.reduceAdd, Int.reduceSub, Int.reduceMul, Int.reduceNeg, Int.reduceLT, Int.reduceLE, Int.reduceToNat, Nat.reduceLT, Nat.reduceAdd, Nat.reduceSub, Nat.reduceMul, Nat.reduceEqDiff, Nat.reduceLeDiff, Nat.reduceBEq, reduceIte, reduceCtorEq]
  refine call_w (num14_c (mayV m s)) [] (by simp (maxSteps := 4000000) only [push_cast, Int.reduceEq, Int.reduceBNe, Int.reduceBEq, Int.reduceAdd, Int.reduceSub, Int.reduceMul, Int.reduceNeg, Int.reduceLT, Int.reduceLE, Int.reduceToNat, Nat.reduceLT, Nat.reduceAdd, Nat.reduceSub, Nat.reduceMul, Nat.reduceEqDiff, Nat.reduceLeDiff, Nat.reduceBEq, reduceIte, reduceCtorEq]) ?_
  rintro sv post ⟨rfl, rfl⟩
  by_cases hm : mayV m s = 0
  case neg =>
    simp (maxSteps := 4000000) only [push_cast, Int.reduceEq, Int.reduceBNe, Int.reduceBEq, Int.reduceAdd, Int.reduceSub, Int.reduceMul, Int.reduceNeg, Int.reduceLT, Int.reduceLE, Int.reduceToNat, Nat.reduceLT, Nat.reduceAdd, Nat.reduceSub, Nat.reduceMul, Nat.reduceEqDiff, Nat.reduceLeDiff, Nat.reduceBEq, reduceIte, reduceCtorEq, hm]
    exact Fin.nil rfl (psv := .b true) (by simp (maxSteps := 4000000) only [push_cast, Int.reduceEq, Int.reduceBNe, Int.reduceBEq, Int.reduceAdd, Int.reduceSub, Int.reduceMul, Int.reduceNeg, Int.reduceLT, Int.reduceLE, Int.reduceToNat, Nat.reduceLT, Nat.reduceAdd, Nat.reduceSub, Nat.reduceMul, Nat.reduceEqDiff, Nat.reduceLeDiff, Nat.reduceBEq, reduceIte, reduceCtorEq]) ⟨rfl, rfl⟩
  have e1 := newSt_ok true false hm
  rw [hm]
  simp (maxSteps := 4000000) only [push_cast, Int.reduceEq, Int.reduceBNe, Int.reduceBEq, Int.reduceAdd, Int.reduceSub, Int.reduceMul, Int.reduceNeg, Int.reduceLT, Int.reduceLE, Int.reduceToNat, Nat.reduceLT, Nat.reduceAdd, Nat.reduceSub, Nat.reduceMul, Nat.reduceEqDiff, Nat.reduceLeDiff, Nat.reduceBEq, reduceIte, reduceCtorEq]
  obtain ⟨d1, d2, d3⟩ := mod40_rng gets
  rw [d3, show (gets.tmod 40 + 40).tmod 40 = mod40 gets from rfl]
  refine loop_ok (ι := {q : Nat × St × (List Int × Int) // (q.1 : Int) ≤ mod40 gets ∧ PL q.2.1 q.2.2 text (min q.1 text.length)})
    (fun q => ⟨[.ints .u8 .old text, .i .i64 m, .i .i64 s, .i .i64 (mod40 gets), .i .i64 off, .i .i64 w, .any, .any, .any, .any, .any, .any, .any, .raw (.pointer (some ⟨b, 0, none⟩)), .any, .ptr 0 0, .any, .i .i64 q.1.1] ++ List.replicate 135 .any, [(0, 26, q.1.2.1.cells .old .old .old)], [], [(1, growR b q.1.2.2.1 q.1.2.2.2)], 2, 0, []⟩)
    (fun q => (mod40 gets).toNat - q.1.1) ⟨(0, newSt true false m s, (text, 0)), d1, by rw [Nat.zero_min]; exact new_pl text false hm⟩ ?_ ?_
  · refine Sub.w [3, 2] ?_
    skip
    simp (maxSteps := 4000000) only [push_cast, Int.reduceEq, Int.reduceBNe, Int.reduceBEq, Int.reduceAdd, Int.reduceSub, Int.reduceMul, Int.reduceNeg, Int.reduceLT, Int.reduceLE, Int.reduceToNat, Nat.reduceLT, Nat.reduceAdd, Nat.reduceSub, Nat.reduceMul, Nat.reduceEqDiff, Nat.reduceLeDiff, Nat.reduceBEq, reduceIte, reduceCtorEq, e1, St.cells, hr]
  · rintro ⟨⟨i, x, g⟩, hi, hx⟩
    simp only at hi hx
    have hok := hx.ok (b := b) hlen
    refine evCode_sound Γok _ _ _ ?_
    simp (maxSteps := 4000000) only [push_cast, Int.reduceEq, Int.reduceBNe, Int.reduceBEq, Int.reduceAdd, Int.reduceSub, Int.reduceMul, Int.reduceNeg, Int.reduceLT, Int.reduceLE, Int.reduceToNat, Nat.reduceLT, Nat.reduceAdd, Nat.reduceSub, Nat.reduceMul, Nat.reduceEqDiff, Nat.reduceLeDiff, Nat.reduceBEq, reduceIte, reduceCtorEq, St.cells, rg11]
    refine ⟨fun h1 => ?_, fun h1 => ?_⟩
    · obtain ⟨x', g', c, e, q1, q2, q3, q4, q5⟩ := pl_get b hx hlen
      refine call_w (GetR_c (growM b) (growM_rd b) x g hok hx.fits) [1] (by simp (maxSteps := 4000000) only [push_cast, Int.reduceEq, Int.reduceBNe, Int.reduceBEq, Int.reduceAdd, Int.reduceSub, Int.reduceMul, Int.reduceNeg, Int.reduceLT, Int.reduceLE, Int.reduceToNat, Nat.reduceLT, Nat.reduceAdd, Nat.reduceSub, Nat.reduceMul, Nat.reduceEqDiff, Nat.reduceLeDiff, Nat.reduceBEq, reduceIte, reduceCtorEq, hv, hr, St.sv, St.cells]) ?_
      rintro sv post ⟨rfl, rfl⟩
      rw [q1]
      simp (maxSteps := 4000000) only [push_cast, Int.reduceEq, Int.reduceBNe, Int.reduceBEq, Int.reduceAdd, Int.reduceSub, Int.reduceMul, Int.reduceNeg, Int.reduceLT, Int.reduceLE, Int.reduceToNat, Nat.reduceLT, Nat.reduceAdd, Nat.reduceSub, Nat.reduceMul, Nat.reduceEqDiff, Nat.reduceLeDiff, Nat.reduceBEq, reduceIte, reduceCtorEq, hr, St.sv, St.cells, rg11]
      refine ⟨⟨(i + 1, x', g'), by simp only; omega, ?_⟩, by simp only; omega, Sub.w [0, 1] ?_⟩
      · simp only
        rcases Nat.lt_or_ge i text.length with h | h
        · rw [Nat.min_eq_left (by omega)] at q4 ⊢
          exact (q4 h).2.2
        · rw [Nat.min_eq_right (by omega)] at q5 ⊢
          exact (q5 (Nat.le_refl _)).2
      · simp (maxSteps := 4000000) only [push_cast, Int.reduceEq, Int.reduceBNe, Int.reduceBEq, Int.reduceAdd, Int.reduceSub, Int.reduceMul, Int.reduceNeg, Int.reduceLT, Int.reduceLE, Int.reduceToNat, Nat.reduceLT, Nat.reduceAdd, Nat.reduceSub, Nat.reduceMul, Nat.reduceEqDiff, Nat.reduceLeDiff, Nat.reduceBEq, reduceIte, reduceCtorEq, St.cells, hr]
        exact ⟨(wrap64 (n := (i : Int) + 1) (by omega) (by omega)).symm, rfl⟩
    · have hie : (i : Int) = mod40 gets := by omega
      have hp : ((min i text.length : Nat) : Int) = minI (mod40 gets) text.length := by unfold minI; split <;> omega
      generalize min i text.length = p at hx hp
      have hor : x.o.length ≤ (growM b).rm g := by rw [hx.o]; exact Nat.zero_le _
      refine call_w (Seek_c (growM b) (growM_wr b) (growM_sk b) x hx.fits (by rw [hx.o]; simp) g hok hor off w) [1] (by simp (maxSteps := 4000000) only [push_cast, Int.reduceEq, Int.reduceBNe, Int.reduceBEq, Int.reduceAdd, Int.reduceSub, Int.reduceMul, Int.reduceNeg, Int.reduceLT, Int.reduceLE, Int.reduceToNat, Nat.reduceLT, Nat.reduceAdd, Nat.reduceSub, Nat.reduceMul, Nat.reduceEqDiff, Nat.reduceLeDiff, Nat.reduceBEq, reduceIte, reduceCtorEq, hv, hr, St.sv, St.cells]) ?_
      rintro sv post ⟨rfl, rfl⟩
      rcases pl_seek b hx hlen off w with ⟨e, he, hs⟩ | ⟨x', at_, a0, a1, hs, hx', hm', hs'⟩
      · rw [hs]
        simp (maxSteps := 4000000) only [push_cast, Int.reduceEq, Int.reduceBNe, Int.reduceBEq, Int.reduceAdd, Int.reduceSub, Int.reduceMul, Int.reduceNeg, Int.reduceLT, Int.reduceLE, Int.reduceToNat, Nat.reduceLT, Nat.reduceAdd, Nat.reduceSub, Nat.reduceMul, Nat.reduceEqDiff, Nat.reduceLeDiff, Nat.reduceBEq, reduceIte, reduceCtorEq, hr, St.sv, St.cells, rg11]
        refine call_w (num14_c e) [] (by simp (maxSteps := 4000000) only [push_cast, Int.reduceEq, Int.reduceBNe, Int.reduceBEq, Int.reduceAdd, Int.reduceSub, Int.reduceMul, Int.reduceNeg, Int.reduceLT, Int.reduceLE, Int.reduceToNat, Nat.reduceLT, Nat.reduceAdd, Nat.reduceSub, Nat.reduceMul, Nat.reduceEqDiff, Nat.reduceLeDiff, Nat.reduceBEq, reduceIte, reduceCtorEq]) ?_
        rintro sv post ⟨rfl, rfl⟩
        simp (maxSteps := 4000000) only [push_cast, Int.reduceEq, Int.reduceBNe, Int.reduceBEq, Int.reduceAdd, Int.reduceSub, Int.reduceMul, Int.reduceNeg, Int.reduceLT, Int.reduceLE, Int.reduceToNat, Nat.reduceLT, Nat.reduceAdd, Nat.reduceSub, Nat.reduceMul, Nat.reduceEqDiff, Nat.reduceLeDiff, Nat.reduceBEq, reduceIte, reduceCtorEq, he, rg11]
        refine call_w (Tell_c (growM b) (growM_wr b) (growM_sk b) x hx.fits (by rw [hx.o]; simp) g hok hor) [1] (by simp (maxSteps := 4000000) only [push_cast, Int.reduceEq, Int.reduceBNe, Int.reduceBEq, Int.reduceAdd, Int.reduceSub, Int.reduceMul, Int.reduceNeg, Int.reduceLT, Int.reduceLE, Int.reduceToNat, Nat.reduceLT, Nat.reduceAdd, Nat.reduceSub, Nat.reduceMul, Nat.reduceEqDiff, Nat.reduceLeDiff, Nat.reduceBEq, reduceIte, reduceCtorEq, hv, hr, St.sv, St.cells]) ?_
        rintro sv post ⟨rfl, rfl⟩
        rw [pl_tell b hx hlen]
        simp (maxSteps := 4000000) only [push_cast, Int.reduceEq, Int.reduceBNe, Int.reduceBEq, Int.reduceAdd, Int.reduceSub, Int.reduceMul, Int.reduceNeg, Int.reduceLT, Int.reduceLE, Int.reduceToNat, Nat.reduceLT, Nat.reduceAdd, Nat.reduceSub, Nat.reduceMul, Nat.reduceEqDiff, Nat.reduceLeDiff, Nat.reduceBEq, reduceIte, reduceCtorEq, hr, St.sv, St.cells, rg11]
        refine call_w (num14_c 0) [] (by simp (maxSteps := 4000000) only [push_cast, Int.reduceEq, Int.reduceBNe, Int.reduceBEq, Int.reduceAdd, Int.reduceSub, Int.reduceMul, Int.reduceNeg, Int.reduceLT, Int.reduceLE, Int.reduceToNat, Nat.reduceLT, Nat.reduceAdd, Nat.reduceSub, Nat.reduceMul, Nat.reduceEqDiff, Nat.reduceLeDiff, Nat.reduceBEq, reduceIte, reduceCtorEq]) ?_
        rintro sv post ⟨rfl, rfl⟩
        rw [hp]
        simp (maxSteps := 4000000) only [push_cast, Int.reduceEq, Int.reduceBNe, Int.reduceBEq, Int.reduceAdd, Int.reduceSub, Int.reduceMul, Int.reduceNeg, Int.reduceLT, Int.reduceLE, Int.reduceToNat, Nat.reduceLT, Nat.reduceAdd, Nat.reduceSub, Nat.reduceMul, Nat.reduceEqDiff, Nat.reduceLeDiff, Nat.reduceBEq, reduceIte, reduceCtorEq]
        exact Fin.nil rfl (psv := .b true) (by simp (maxSteps := 4000000) only [push_cast, Int.reduceEq, Int.reduceBNe, Int.reduceBEq, Int.reduceAdd, Int.reduceSub, Int.reduceMul, Int.reduceNeg, Int.reduceLT, Int.reduceLE, Int.reduceToNat, Nat.reduceLT, Nat.reduceAdd, Nat.reduceSub, Nat.reduceMul, Nat.reduceEqDiff, Nat.reduceLeDiff, Nat.reduceBEq, reduceIte, reduceCtorEq]) ⟨rfl, rfl⟩
      · rw [hs]
        simp (maxSteps := 4000000) only [push_cast, Int.reduceEq, Int.reduceBNe, Int.reduceBEq, Int.reduceAdd, Int.reduceSub, Int.reduceMul, Int.reduceNeg, Int.reduceLT, Int.reduceLE, Int.reduceToNat, Nat.reduceLT, Nat.reduceAdd, Nat.reduceSub, Nat.reduceMul, Nat.reduceEqDiff, Nat.reduceLeDiff, Nat.reduceBEq, reduceIte, reduceCtorEq, hr, St.sv, St.cells, rg11]
        refine call_w (num14_c 0) [] (by simp (maxSteps := 4000000) only [push_cast, Int.reduceEq, Int.reduceBNe, Int.reduceBEq, Int.reduceAdd, Int.reduceSub, Int.reduceMul, Int.reduceNeg, Int.reduceLT, Int.reduceLE, Int.reduceToNat, Nat.reduceLT, Nat.reduceAdd, Nat.reduceSub, Nat.reduceMul, Nat.reduceEqDiff, Nat.reduceLeDiff, Nat.reduceBEq, reduceIte, reduceCtorEq]) ?_
        rintro sv post ⟨rfl, rfl⟩
        simp (maxSteps := 4000000) only [push_cast, Int.reduceEq, Int.reduceBNe, Int.reduceBEq, Int.reduceAdd, Int.reduceSub, Int.reduceMul, Int.reduceNeg, Int.reduceLT, Int.reduceLE, Int.reduceToNat, Nat.reduceLT, Nat.reduceAdd, Nat.reduceSub, Nat.reduceMul, Nat.reduceEqDiff, Nat.reduceLeDiff, Nat.reduceBEq, reduceIte, reduceCtorEq, rg11]
        have hok' := hx'.ok (b := b) hlen
        have hor' : x'.o.length ≤ (growM b).rm (text, at_) := by rw [hx'.o]; exact Nat.zero_le _
        refine call_w (Tell_c (growM b) (growM_wr b) (growM_sk b) x' hx'.fits (by rw [hx'.o]; simp) (text, at_) hok' hor') [1] (by simp (maxSteps := 4000000) only [push_cast, Int.reduceEq, Int.reduceBNe, Int.reduceBEq, Int.reduceAdd, Int.reduceSub, Int.reduceMul, Int.reduceNeg, Int.reduceLT, Int.reduceLE, Int.reduceToNat, Nat.reduceLT, Nat.reduceAdd, Nat.reduceSub, Nat.reduceMul, Nat.reduceEqDiff, Nat.reduceLeDiff, Nat.reduceBEq, reduceIte, reduceCtorEq, hv, hr, St.sv, St.cells]) ?_
        rintro sv post ⟨rfl, rfl⟩
        rw [pl_tell b hx' hlen, Int.toNat_of_nonneg a0]
        simp (maxSteps := 4000000) only [push_cast, Int.reduceEq, Int.reduceBNe, Int.reduceBEq, Int.reduceAdd, Int.reduceSub, Int.reduceMul, Int.reduceNeg, Int.reduceLT, Int.reduceLE, Int.reduceToNat, Nat.reduceLT, Nat.reduceAdd, Nat.reduceSub, Nat.reduceMul, Nat.reduceEqDiff, Nat.reduceLeDiff, Nat.reduceBEq, reduceIte, reduceCtorEq, hr, St.sv, St.cells, rg11]
        refine call_w (num14_c 0) [] (by simp (maxSteps := 4000000) only [push_cast, Int.reduceEq, Int.reduceBNe, Int.reduceBEq, Int.reduceAdd, Int.reduceSub, Int.reduceMul, Int.reduceNeg, Int.reduceLT, Int.reduceLE, Int.reduceToNat, Nat.reduceLT, Nat.reduceAdd, Nat.reduceSub, Nat.reduceMul, Nat.reduceEqDiff, Nat.reduceLeDiff, Nat.reduceBEq, reduceIte, reduceCtorEq]) ?_
        rintro sv post ⟨rfl, rfl⟩
        simp (maxSteps := 4000000) only [push_cast, Int.reduceEq, Int.reduceBNe, Int.reduceBEq, Int.reduceAdd, Int.reduceSub, Int.reduceMul, Int.reduceNeg, Int.reduceLT, Int.reduceLE, Int.reduceToNat, Nat.reduceLT, Nat.reduceAdd, Nat.reduceSub, Nat.reduceMul, Nat.reduceEqDiff, Nat.reduceLeDiff, Nat.reduceBEq, reduceIte, reduceCtorEq, rg11]
        refine ⟨fun h => absurd h (by omega), fun _ => ?_⟩
        obtain ⟨x2, g2, c, e, q1, q2, q3, q4, q5⟩ := pl_get b hx' hlen
        refine call_w (GetR_c (growM b) (growM_rd b) x' (text, at_) hok' hx'.fits) [1] (by simp (maxSteps := 4000000) only [push_cast, Int.reduceEq, Int.reduceBNe, Int.reduceBEq, Int.reduceAdd, Int.reduceSub, Int.reduceMul, Int.reduceNeg, Int.reduceLT, Int.reduceLE, Int.reduceToNat, Nat.reduceLT, Nat.reduceAdd, Nat.reduceSub, Nat.reduceMul, Nat.reduceEqDiff, Nat.reduceLeDiff, Nat.reduceBEq, reduceIte, reduceCtorEq, hv, hr, St.sv, St.cells]) ?_
        rintro sv post ⟨rfl, rfl⟩
        rw [q1]
        simp (maxSteps := 4000000) only [push_cast, Int.reduceEq, Int.reduceBNe, Int.reduceBEq, Int.reduceAdd, Int.reduceSub, Int.reduceMul, Int.reduceNeg, Int.reduceLT, Int.reduceLE, Int.reduceToNat, Nat.reduceLT, Nat.reduceAdd, Nat.reduceSub, Nat.reduceMul, Nat.reduceEqDiff, Nat.reduceLeDiff, Nat.reduceBEq, reduceIte, reduceCtorEq, hr, St.sv, St.cells, rg11]
        refine ⟨fun h => ?_, fun h => ?_⟩
        · obtain ⟨rfl, -⟩ := q5 (by omega)
          refine call_w (num14_c 111) [] (by simp (maxSteps := 4000000) only [push_cast, Int.reduceEq, Int.reduceBNe, Int.reduceBEq, Int.reduceAdd, Int.reduceSub, Int.reduceMul, Int.reduceNeg, Int.reduceLT, Int.reduceLE, Int.reduceToNat, Nat.reduceLT, Nat.reduceAdd, Nat.reduceSub, Nat.reduceMul, Nat.reduceEqDiff, Nat.reduceLeDiff, Nat.reduceBEq, reduceIte, reduceCtorEq]) ?_
          rintro sv post ⟨rfl, rfl⟩
          simp (maxSteps := 4000000) only [push_cast, Int.reduceEq, Int.reduceBNe, Int.reduceBEq, Int.reduceAdd, Int.reduceSub, Int.reduceMul, Int.reduceNeg, Int.reduceLT, Int.reduceLE, Int.reduceToNat, Nat.reduceLT, Nat.reduceAdd, Nat.reduceSub, Nat.reduceMul, Nat.reduceEqDiff, Nat.reduceLeDiff, Nat.reduceBEq, reduceIte, reduceCtorEq]
          exact Fin.nil rfl (psv := .b true) (by simp (maxSteps := 4000000) only [push_cast, Int.reduceEq, Int.reduceBNe, Int.reduceBEq, Int.reduceAdd, Int.reduceSub, Int.reduceMul, Int.reduceNeg, Int.reduceLT, Int.reduceLE, Int.reduceToNat, Nat.reduceLT, Nat.reduceAdd, Nat.reduceSub, Nat.reduceMul, Nat.reduceEqDiff, Nat.reduceLeDiff, Nat.reduceBEq, reduceIte, reduceCtorEq]) ⟨rfl, rfl⟩
        · obtain ⟨rfl, rfl, -⟩ := q4 (by omega)
          refine call_w (num14_c 0) [] (by simp (maxSteps := 4000000) only [push_cast, Int.reduceEq, Int.reduceBNe, Int.reduceBEq, Int.reduceAdd, Int.reduceSub, Int.reduceMul, Int.reduceNeg, Int.reduceLT, Int.reduceLE, Int.reduceToNat, Nat.reduceLT, Nat.reduceAdd, Nat.reduceSub, Nat.reduceMul, Nat.reduceEqDiff, Nat.reduceLeDiff, Nat.reduceBEq, reduceIte, reduceCtorEq]) ?_
          rintro sv post ⟨rfl, rfl⟩
          simp (maxSteps := 4000000) only [push_cast, Int.reduceEq, Int.reduceBNe, Int.reduceBEq, Int.reduceAdd, Int.reduceSub, Int.reduceMul, Int.reduceNeg, Int.reduceLT, Int.reduceLE, Int.reduceToNat, Nat.reduceLT, Nat.reduceAdd, Nat.reduceSub, Nat.reduceMul, Nat.reduceEqDiff, Nat.reduceLeDiff, Nat.reduceBEq, reduceIte, reduceCtorEq, rg11]
          exact ⟨⟨a0, h⟩, Fin.nil rfl (psv := .b true) (by simp (maxSteps := 4000000) only [push_cast, Int.reduceEq, Int.reduceBNe, Int.reduceBEq, Int.reduceAdd, Int.reduceSub, Int.reduceMul, Int.reduceNeg, Int.reduceLT, Int.reduceLE, Int.reduceToNat, Nat.reduceLT, Nat.reduceAdd, Nat.reduceSub, Nat.reduceMul, Nat.reduceEqDiff, Nat.reduceLeDiff, Nat.reduceBEq, reduceIte, reduceCtorEq]) ⟨rfl, rfl⟩⟩
end Go.Proofs.Ytbhkpefjnomncaa
/- PositionCounts: a place goes up by one with each byte that is got or put. -/
namespace Go.Proofs.Ytbhkpefjnomncaa
open Go Go.Eng
set_option maxHeartbeats 4000000
set_option linter.unusedSimpArgs false
set_option linter.unusedVariables false
set_option maxRecDepth 100000

theorem grow_putV (b : Nat) (g : List Int × Int) (l : List Int) (h0 : 0 ≤ g.2) (h1 : g.2 + l.length ≤ 1048576) : putV (growM b) g l = ((if l = [] then g else (wrote g.1 g.2.toNat l, g.2 + l.length)), [], 0) := by
  unfold putV
  obtain ⟨F, hF⟩ : ∃ F, 8193 * (l.length + 1) = F + 1 + 1 := ⟨8193 * l.length + 8191, by omega⟩
  rw [hF]
  simp only [RawM.putGo]
  by_cases h : l = []
  · rw [if_pos h, if_pos h]
    rfl
  · have hp := List.length_pos_iff.2 h
    have e : (growM b).wr g l = ((wrote g.1 g.2.toNat l, g.2 + l.length), (l.length : Int), 0) := by
      show gW 1048576 g.1 g.2 l = _
      unfold gW
      rw [if_neg (by omega), List.take_of_length_le (by omega)]
    rw [if_neg h, if_neg h, e]
    dsimp only
    rw [if_neg (by omega), if_neg (by simp), if_neg (by omega), Int.toNat_natCast, List.drop_length, if_pos rfl, if_neg h]; rfl

/-- A stream that writes memory, all of it delivered. -/
structure PW (x : St) (g : List Int × Int) (text puts : List Int) (i : Nat) : Prop where
  may : x.May
  r : x.r = true
  w : x.w = true
  cl : x.cl = false
  d : x.d ≠ 1
  iz : x.i = []
  kz : x.k = []
  o : x.o = []
  g1 : g.1 = puts.take i ++ text.drop i
  g2 : g.2 = i

theorem PW.bErr {x : St} {g : List Int × Int} {text puts : List Int} {i : Nat} (h : PW x g text puts i) : x.bErr = 0 := by
  unfold St.bErr; rw [if_pos h.may, if_neg (by simp [h.cl])]
theorem PW.fits {x : St} {g : List Int × Int} {text puts : List Int} {i : Nat} (h : PW x g text puts i) : x.fits := by
  obtain ⟨b1, b2, b3, b4⟩ := May.bd h.may
  exact ⟨by omega, by omega, by omega⟩
theorem PW.ok {b : Nat} {x : St} {g : List Int × Int} {text puts : List Int} {i : Nat} (h : PW x g text puts i) (h1 : text.length ≤ 1048576) (h2 : puts.length ≤ 200) (hi : i ≤ puts.length) : (growM b).ok g := by
  refine ⟨by rw [h.g2]; omega, by rw [h.g2]; omega, ?_⟩
  rw [h.g1, List.length_append, List.length_take, List.length_drop]
  omega

theorem new_pw (text puts : List Int) {m s : Int} (h : mayV m s = 0) : PW (newSt true true m s) (text, 0) text puts 0 := by
  have e := newSt_ok true true h
  exact ⟨newSt_may true true h, by rw [e], by rw [e], by rw [e], by rw [e]; simp, by rw [e], by rw [e], by rw [e], by simp, rfl⟩

theorem wrote_one (text puts : List Int) (i : Nat) (hi : i < puts.length) : wrote (puts.take i ++ text.drop i) i [puts.getD i 0] = puts.take (i + 1) ++ text.drop (i + 1) := by
  unfold wrote
  have h1 : (puts.take i).length = i := by simp; omega
  have h2 : (puts.take i ++ text.drop i ++ List.replicate (i + [puts.getD i 0].length - (puts.take i ++ text.drop i).length) 0).take i = puts.take i := by
    rw [List.append_assoc, List.take_append_of_le_length (by omega), List.take_of_length_le (by omega)]
  have h3 : (puts.take i ++ text.drop i).drop (i + [puts.getD i 0].length) = text.drop (i + 1) := by
    rw [List.drop_append, List.drop_of_length_le (by simp; omega), List.nil_append, List.drop_drop]
    congr 1
    simp; omega
  rw [h2, h3, List.take_succ_eq_append_getElem hi]
  simp [List.getD, hi]

theorem idle_settled (b : Nat) (x : St) (g : List Int × Int) (hb : x.bErr = 0) (ho : x.o = []) : x.settled (growM b) g false = (x, g, 0) := by
  unfold St.settled
  rw [if_neg (by rw [hb]; simp), if_neg (by simp), if_pos (by rw [ho]; rfl)]
  rfl
theorem idle_tell (b : Nat) (x : St) (D : List Int) (q : Int) (hb : x.bErr = 0) (ho : x.o = []) (hi : x.i = []) (hk : x.k = []) (q0 : 0 ≤ q) (q1 : q ≤ 1048576) : x.Tell (growM b) (D, q) = (x, (D, q), q, 0) := by
  have e1 := idle_settled b x (D, q) hb ho
  have e : (growM b).sk (D, q) 0 1 = ((D, q), q, 0) := gK_here D q q0 q1
  have e2 : x.here (growM b) (D, q) = ((D, q), q, 0) := by
    unfold St.here
    rw [e]
    dsimp only
    rw [if_neg (by simp), hi, hk]
    simp only [List.length_nil, Int.natCast_zero, Int.sub_zero]
    have hw : IntKind.i64.wrap q = q := wrap64 (by omega) (by omega)
    rw [hw, hw]
    try rfl
  have hp0 : ¬ (q < 0) := by omega
  unfold St.Tell
  rw [e1]
  dsimp only
  rw [e2]
  dsimp only
  simp [hp0]
  try rfl

/-- A byte is put; where it is. -/
theorem pw_step (b : Nat) {x : St} {g : List Int × Int} {text puts : List Int} {i : Nat} (h : PW x g text puts i) (hi : i < puts.length) (h2 : puts.length ≤ 200) :
    ∃ x' g' x2 g2, x.Put (growM b) g (puts.getD i 0) = (x', g', 0) ∧ x'.fits ∧ x'.o.length ≤ 1 ∧ (g' = g ∨ g' = g2) ∧ x'.Tell (growM b) g' = (x2, g2, ((i + 1 : Nat) : Int), 0) ∧ PW x2 g2 text puts (i + 1) := by
  have hb := h.bErr
  obtain ⟨r, w, m, s, o, iv, k, d, en, bad, cl⟩ := x
  obtain ⟨h1, hr, hw, hcl, hd, h5, h6, ho, hg1, hg2⟩ := h
  simp only at hr hw hcl hd h5 h6 ho
  subst hr hw hcl h5 h6 ho
  obtain ⟨D, q⟩ := g
  simp only at hg1 hg2
  subst hg1 hg2
  obtain ⟨m1, m2, m3, m4, m5, m6, m7⟩ := h1
  simp only at m1
  obtain ⟨a1, a2, a3, a4⟩ := may_zero' m1
  have hwe : St.wErr ⟨true, true, m, s, [], [], [], d, en, bad, false⟩ = 0 := by simp [St.wErr, hd]
  have hnote : ∀ (y : St), y.noted 0 = y := fun y => by simp [St.noted]
  have mk : ∀ o' : List Int, (o'.length : Int) ≤ s → (¬ m = 1 ∨ o'.length = 0) → St.May ⟨true, true, m, s, o', [], [], 2, en, bad, false⟩ := fun o' q1 q2 => ⟨m1, q1, q2, by simp, by simp, .inl rfl, .inr (.inr ⟨rfl, rfl, rfl, rfl⟩)⟩
  have hD : wrote (puts.take i ++ text.drop i) (i : Int).toNat [puts.getD i 0] = puts.take (i + 1) ++ text.drop (i + 1) := by
    rw [Int.toNat_natCast]; exact wrote_one text puts i hi
  have hput : putV (growM b) (puts.take i ++ text.drop i, (i : Int)) [puts.getD i 0] = ((puts.take (i + 1) ++ text.drop (i + 1), ((i + 1 : Nat) : Int)), [], 0) := by
    rw [grow_putV b _ _ (by simp) (by simp; omega), if_neg (by simp)]
    dsimp only
    rw [hD]
    rfl
  have tell0 : St.Tell (growM b) ⟨true, true, m, s, [], [], [], 2, en, bad, false⟩ ((puts.take (i + 1) ++ text.drop (i + 1), ((i + 1 : Nat) : Int)) : List Int × Int) = (⟨true, true, m, s, [], [], [], 2, en, bad, false⟩, ((puts.take (i + 1) ++ text.drop (i + 1), ((i + 1 : Nat) : Int)) : List Int × Int), ((i + 1 : Nat) : Int), 0) := by
    exact idle_tell b ⟨true, true, m, s, [], [], [], 2, en, bad, false⟩ _ _ (by unfold St.bErr; rw [if_pos (mk [] (by simp; omega) (.inr rfl)), if_neg (by simp)]) rfl rfl rfl (by omega) (by omega)
  have fin : PW ⟨true, true, m, s, [], [], [], 2, en, bad, false⟩ ((puts.take (i + 1) ++ text.drop (i + 1), ((i + 1 : Nat) : Int)) : List Int × Int) text puts (i + 1) :=
    ⟨mk [] (by simp; omega) (.inr rfl), rfl, rfl, rfl, by simp, rfl, rfl, rfl, rfl, rfl⟩
  have fit : ∀ o' : List Int, o'.length ≤ 1 → St.fits ⟨true, true, m, s, o', [], [], 2, en, bad, false⟩ := fun o' ho => ⟨by simp; omega, by simp, by simp⟩
  generalize puts.getD i 0 = c at hput ⊢
  unfold St.Put St.put
  rw [if_neg (by rw [hb]; simp), if_neg (by rw [hwe]; simp)]
  dsimp only
  split
  · rw [hput, hnote]
    exact ⟨_, _, _, _, rfl, fit [] (by simp), by simp, .inr rfl, tell0, fin⟩
  · rename_i hm
    rw [if_neg (by simp; omega), List.nil_append]
    unfold St.put1
    dsimp only
    have hdel : St.deliver (growM b) ⟨true, true, m, s, [c], [], [], 2, en, bad, false⟩ ((puts.take i ++ text.drop i, (i : Int)) : List Int × Int) = (⟨true, true, m, s, [], [], [], 2, en, bad, false⟩, ((puts.take (i + 1) ++ text.drop (i + 1), ((i + 1 : Nat) : Int)) : List Int × Int), 0) := by
      unfold St.deliver
      dsimp only
      rw [hput, hnote]
      try rfl
    split
    · rw [hdel]
      exact ⟨_, _, _, _, rfl, fit [] (by simp), by simp, .inr rfl, tell0, fin⟩
    · rename_i hc
      refine ⟨_, _, _, _, rfl, fit [c] (by simp), by simp, .inl rfl, ?_, fin⟩
      have hb2 : St.bErr ⟨true, true, m, s, [c], [], [], 2, en, bad, false⟩ = 0 := by unfold St.bErr; rw [if_pos (mk [c] (by simp; omega) (.inl hm)), if_neg (by simp)]
      have e1 : St.settled (growM b) ⟨true, true, m, s, [c], [], [], 2, en, bad, false⟩ ((puts.take i ++ text.drop i, (i : Int)) : List Int × Int) false = (⟨true, true, m, s, [], [], [], 2, en, bad, false⟩, ((puts.take (i + 1) ++ text.drop (i + 1), ((i + 1 : Nat) : Int)) : List Int × Int), 0) := by
        unfold St.settled
        rw [if_neg (by rw [hb2]; simp), if_neg (by simp), if_neg (by simp)]
        have hf : St.Flush (growM b) ⟨true, true, m, s, [c], [], [], 2, en, bad, false⟩ ((puts.take i ++ text.drop i, (i : Int)) : List Int × Int) = (⟨true, true, m, s, [], [], [], 0, en, bad, false⟩, ((puts.take (i + 1) ++ text.drop (i + 1), ((i + 1 : Nat) : Int)) : List Int × Int), 0) := by
          unfold St.Flush
          rw [if_neg (by rw [hb2]; simp)]
          dsimp only
          rw [if_pos rfl, hdel]
          exact if_pos rfl
        rw [hf]
        try rfl
      have e1' : St.settled (growM b) ⟨true, true, m, s, [], [], [], 2, en, bad, false⟩ ((puts.take (i + 1) ++ text.drop (i + 1), ((i + 1 : Nat) : Int)) : List Int × Int) false = (⟨true, true, m, s, [], [], [], 2, en, bad, false⟩, ((puts.take (i + 1) ++ text.drop (i + 1), ((i + 1 : Nat) : Int)) : List Int × Int), 0) := by
        exact idle_settled b ⟨true, true, m, s, [], [], [], 2, en, bad, false⟩ _ (by unfold St.bErr; rw [if_pos (mk [] (by simp; omega) (.inr rfl)), if_neg (by simp)]) rfl
      refine Eq.trans ?_ tell0
      unfold St.Tell
      rw [e1, e1']

theorem pw_rewind (b : Nat) {x : St} {g : List Int × Int} {text puts : List Int} {i : Nat} (h : PW x g text puts i) :
    ∃ x', x.Seek (growM b) g 0 0 = (x', (g.1, 0), 0, 0) ∧ PL x' (g.1, 0) g.1 0 := by
  have hb := h.bErr
  have e1 : x.settled (growM b) g (decide ((0 : Int) < 0) || decide ((2 : Int) < 0)) = (x, g, 0) := by
    unfold St.settled
    rw [if_neg (by rw [hb]; simp), if_neg (by simp), if_pos (by rw [h.o]; rfl)]
    try rfl
  have e2 : (growM b).sk g 0 0 = ((g.1, 0), 0, 0) := by
    show gK 1048576 g.1 g.2 0 0 = _
    unfold gK
    simp
  refine ⟨{ x with o := [], i := [], k := [], en := false, d := 0 }, ?_, ?_⟩
  · unfold St.Seek
    rw [e1]
    dsimp only
    rw [if_neg (by simp), if_neg (by omega), e2]
    unfold St.sought
    simp
    try rfl
  · obtain ⟨m1, m2, m3, m4, m5, m6, m7⟩ := h.may
    exact ⟨⟨m1, by have := may_zero' m1; simp; omega, .inr rfl, by simp, by simp, .inl h.cl, .inl ⟨rfl, rfl, rfl, rfl⟩⟩, h.r, h.cl, by simp, rfl, rfl, by simp, rfl, by simp, by simp, by omega⟩
end Go.Proofs.Ytbhkpefjnomncaa
/- A text onto an unbuffered stream: a Raw that takes nothing (spy), then one raw write. -/
namespace Go.Proofs.Ytbhkpefjnomncaa
open Go Go.Eng
set_option maxHeartbeats 4000000
set_option linter.unusedSimpArgs false
set_option linter.unusedVariables false
set_option maxRecDepth 100000

/-- A method with a value receiver that is the type's own. -/
def methodVB (P : Program) (t : TypeId) (name : String) (f : FuncId) : Bool :=
  (match P.info? t with
    | some i => (match i.methods.find? (·.name == name) with
      | some m => m.path.toList.isEmpty && (match m.func with | some (g, false) => g == f | _ => false)
      | none => false)
    | none => false) && (match P.underlying t with | some (.struct _) => true | _ => false)

theorem methodV_of {P : Program} {t : TypeId} {name : String} {f : FuncId} (h : methodVB P t name f = true) (y : Value) (w : World) :
    (Go.method (P.types.size + Made.depth) t y name).run P w = .ok (f, y) w ∧ (nilAhead (P.types.size + Made.depth) t y name).run P w = .ok (some false) w := by
  unfold methodVB at h
  rw [Bool.and_eq_true] at h
  obtain ⟨h1, h2⟩ := h
  split at h1
  · rename_i i hi
    split at h1
    · rename_i m hm
      rw [Bool.and_eq_true] at h1
      obtain ⟨h3, h4⟩ := h1
      split at h4
      · rename_i g hg
        have hg' : g = f := by simpa using h4
        subst hg'
        split at h2
        · rename_i e he
          have hp : m.path.toList = [] := by simpa using h3
          rw [show P.types.size + Made.depth = (P.types.size + (Made.depth - 1)) + 1 by unfold Made.depth; omega]
          have h5 : (typeInfo t).run P w = .ok i w := by simp [typeInfo, hi]
          constructor
          · simp only [Go.method, Sem.run_bind]
            rw [h5]
            simp only [Result.andThen_ok, hm, Sem.run_bind, hp, Go.follow, Sem.run_pure, hg]
            have h6 : ∀ x, (Go.receiverAt t (.val y) false x).run P w = .ok y w := fun x => by
              simp [Go.receiverAt, run_underlying he, Place.get]
            rw [h6]
            rfl
          · simp only [Go.nilAhead, Sem.run_bind]
            rw [h5]
            simp only [Result.andThen_ok, hm, Sem.run_bind, hp, Go.followBlind, Sem.run_pure, hg]
            simp [run_underlying he]
        · cases h2
      · cases h4
    · cases h1
  · cases h1

theorem invV_of {P : Program} {t : TypeId} {name : String} {f : FuncId} (hm : methodVB P t name f = true) {y : Value} {sy : SV} (hd : ∀ E : Env, Den E sy y) {pre : SS} {pargs : List SV} {R : SV → SS → Prop} (hC : Contract P f pre (sy :: pargs) R) :
    InvC P t y name pre pargs R := by
  intro E w vs hw0 hw hv
  obtain ⟨k1, k2⟩ := hC E w (y :: vs) hw0 hw (by simp only [DenL]; exact ⟨hd E, hv⟩)
  refine ⟨f, (y :: vs).toArray, ?_, k2⟩
  rw [← k1]
  simp only [callMethod, Sem.run_bind, run_program, Result.andThen_ok, (methodV_of hm y w).1]
  congr 2
  apply Array.ext'; simp
theorem nilOKV_of {P : Program} {t : TypeId} {name : String} {f : FuncId} (hm : methodVB P t name f = true) (y : Value) : NilOK P name (.ifc t (.raw y)) := by
  intro E v hv
  simp only [Den] at hv
  obtain ⟨y', rfl, rfl⟩ := hv
  exact ⟨t, _, rfl, fun w => (methodV_of hm _ w).2⟩

/-- The arguments may be told otherwise. -/
theorem Contract.args {P : Program} {f : FuncId} {pre : SS} {a b : List SV} {R : SV → SS → Prop} (hd : ∀ E vs, DenL E b vs → DenL E a vs) (h : Contract P f pre a R) : Contract P f pre b R :=
  fun E w vs h0 hw hv => h E w vs h0 hw (hd E vs hv)

/-- The Raw that takes nothing. -/
def spyM (M : RawM) : RawM where
  σ := M.σ
  t := 117
  y := .agg #[.iface M.t M.y]
  res := M.res
  ok := M.ok
  rd s n := (s, [], 0)
  wr s l := (s, 0, 52)
  sk s o w := (s, 0, 0)
  rm := M.rm

theorem spyWrite_c (M : RawM) (g : M.σ) (l : List Int) : Contract Try.prog 123 (preR (M.res g)) [.agg [M.v], .ints .u8 .old l] (fun sv post => sv = .tup [.i .i64 0, .i .i64 52] ∧ post = preR (M.res g)) := by
  refine contract_ev Γok Try.func123 rfl rfl [] ?_
  simp (maxSteps := 4000000) only [push_cast, Int.reduceEq, Int.reduceBNe, Int.reduceBEq, Int.reduceAdd, Int.reduceSub, Int.reduceMul, Int.reduceNeg, Int.reduceLT, Int.reduceLE, Int.reduceToNat, Nat.reduceLT, Nat.reduceAdd, Nat.reduceSub, Nat.reduceMul, Nat.reduceEqDiff, Nat.reduceLeDiff, Nat.reduceBEq, reduceIte, reduceCtorEq, Try.f123, preR, RawM.v]
  exact Fin.w [0] (.tup [.i .i64 0, .i .i64 52]) _ (by simp (maxSteps := 4000000) only [push_cast, Int.reduceEq, Int.reduceBNe, Int.reduceBEq, Int.reduceAdd, Int.reduceSub, Int.reduceMul, Int.reduceNeg, Int.reduceLT, Int.reduceLE, Int.reduceToNat, Nat.reduceLT, Nat.reduceAdd, Nat.reduceSub, Nat.reduceMul, Nat.reduceEqDiff, Nat.reduceLeDiff, Nat.reduceBEq, reduceIte, reduceCtorEq]) ⟨rfl, rfl⟩

theorem spyM_wr (M : RawM) : (spyM M).Wr := by
  refine ⟨?_, fun s l hg h1 h2 h3 => ⟨hg, ?_⟩, fun s l hg h1 h2 h3 => ?_⟩
  · exact nilOKV_of (f := 123) (by kernel_rfl) _
  · exact Nat.le_add_right _ _
  · exact invV_of (f := 123) (sy := .agg [M.v]) (by kernel_rfl) (fun E => by simp [RawM.v, Den, DenL, spyM]) (spyWrite_c M s l)
theorem spy_putV (M : RawM) (g : M.σ) (c : Int) : putV (spyM M) g [c] = (g, [c], 52) := rfl
end Go.Proofs.Ytbhkpefjnomncaa
/- A text put onto a stream. -/
namespace Go.Proofs.Ytbhkpefjnomncaa
open Go Go.Eng
set_option maxHeartbeats 4000000
set_option linter.unusedSimpArgs false
set_option linter.unusedVariables false
set_option maxRecDepth 100000

theorem spy_Put (M : RawM) (x : St) (g : M.σ) (c : Int) (hb : x.bErr = 0) (hw : x.wErr = 0) (h1 : x.m = 1) : x.Put (spyM M) g c = ({ x with d := 2 }, g, 52) := by
  unfold St.Put St.put
  rw [if_neg (by rw [hb]; simp), if_neg (by rw [hw]; simp), if_pos h1, spy_putV]
  simp [St.noted]
  rfl

theorem spyPut_c (M : RawM) (x : St) (g : M.σ) (hg : M.ok g) (hx : x.fits) (c : Int) (hb : x.bErr = 0) (hw : x.wErr = 0) (h1 : x.m = 1) (hr : x.o.length + 1 ≤ M.rm g) :
    Contract Try.prog 21 (preR (M.res g)) [x.sv .old, .ifc 117 (.agg [M.v]), .i .u8 c] (isS M ({ x with d := 2 }, g, 52)) := by
  have h := PutR_c (spyM M) (spyM_wr M) x g hg hx c hr
  rw [spy_Put M x g c hb hw h1] at h
  refine Contract.args (fun E vs hv => ?_) h
  have key : ∀ v, Den E (.ifc 117 (.agg [M.v])) v → Den E (spyM M).v v := by
    intro v hv
    simp only [RawM.v, spyM, Den] at hv ⊢
    obtain ⟨y, rfl, vs, rfl, hy⟩ := hv
    rcases vs with _ | ⟨v1, _ | ⟨v2, vs⟩⟩
    · simp [DenL] at hy
    · simp only [DenL, Den] at hy
      obtain ⟨⟨y1, rfl, rfl⟩, -⟩ := hy
      exact ⟨_, rfl, rfl⟩
    · simp [DenL] at hy
  rcases vs with _ | ⟨v1, _ | ⟨v2, vs⟩⟩
  · simp [DenL] at hv
  · simp [DenL] at hv
  · simp only [DenL] at hv ⊢
    exact ⟨hv.1, key _ hv.2.1, hv.2.2⟩

/-- Unbuffered: one raw write; what follows, how many bytes, an error. -/
def St.wholeV (M : RawM) (x : St) (g : M.σ) (b : List Int) : St × M.σ × Int × Int :=
  (({ x with d := 2 } : St).noted (putV M g b).2.2, (putV M g b).1, b.length - (putV M g b).2.1.length, (putV M g b).2.2)
/-- How a put of a text ends. -/
def isSN (M : RawM) (r : St × M.σ × Int × Int) (sv : SV) (post : SS) : Prop := sv = .tup [r.1.sv .new, .i .i64 r.2.2.1, .i .i64 r.2.2.2] ∧ post = preR (M.res r.2.1)

theorem whole_c (M : RawM) (hW : M.Wr) (x : St) (g : M.σ) (hg : M.ok g) (hx : x.fits) (b : List Int) (hb : x.bErr = 0) (hw : x.wErr = 0) (h1 : x.m = 1) (hb0 : b ≠ []) (hb1 : b.length ≤ 1048576) (hr : b.length ≤ M.rm g) (hr2 : x.o.length + 1 ≤ M.rm g) :
    Contract Try.prog 59 (preR (M.res g)) [x.sv .old, M.v, .ints .u8 .old b] (isSN M (x.wholeV M g b)) := by
  have hb2 := List.length_pos_iff.2 hb0
  refine contract_ev Γok Try.func59 rfl rfl [1] ?_
  simp (maxSteps := 4000000) only [push_cast, Int.reduceEq, Int.reduceBNe, Int.reduceBEq, Int.reduceAdd, Int.reduceSub, Int.reduceMul, Int.reduceNeg, Int.reduceLT, Int.reduceLE, Int.reduceToNat, Nat.reduceLT, Nat.reduceAdd, Nat.reduceSub, Nat.reduceMul, Nat.reduceEqDiff, Nat.reduceLeDiff, Nat.reduceBEq, reduceIte, reduceCtorEq, Try.f59, RawM.v, St.sv, St.cells, rg11]
  refine (region_plan rfl Γok mixed (.pure 0 (.pure 1 (.pure 2 (.pure 3 (.pure 4 (.pure 5 (.pure 6 (.eff (.cons 7 [] (.pure 8 (.pure 9 (.pure 10 (.eff (.cons 11 [0, 6] (.eff (.cons 12 [] (.pure 13 .done) .nil)) .nil))))) (.cons 11 [0, 6] (.eff (.cons 7 [] (.pure 8 (.pure 9 (.pure 10 (.eff (.cons 12 [] (.pure 13 .done) .nil))))) .nil)) .nil)))))))))) 47 rfl (by kernel_rfl) ?_)
  simp (maxSteps := 4000000) only [push_cast, Int.reduceEq, Int.reduceBNe, Int.reduceBEq, Int.reduceAdd, Int.reduceSub, Int.reduceMul, Int.reduceNeg, Int.reduceLT, Int.reduceLE, Int.reduceToNat, Nat.reduceLT, Nat.reduceAdd, Nat.reduceSub, Nat.reduceMul, Nat.reduceEqDiff, Nat.reduceLeDiff, Nat.reduceBEq, reduceIte, reduceCtorEq, rg11]
  refine ⟨by omega, ?_, ?_⟩
  all_goals
    refine call_w (spyPut_c M x g hg hx (b.getD 0 0) hb hw h1 hr2) [0] (by simp (maxSteps := 4000000) only [push_cast, Int.reduceEq, Int.reduceBNe, Int.reduceBEq, Int.reduceAdd, Int.reduceSub, Int.reduceMul, Int.reduceNeg, Int.reduceLT, Int.reduceLE, Int.reduceToNat, Nat.reduceLT, Nat.reduceAdd, Nat.reduceSub, Nat.reduceMul, Nat.reduceEqDiff, Nat.reduceLeDiff, Nat.reduceBEq, reduceIte, reduceCtorEq, RawM.v, St.sv, St.cells]) ?_
    rintro sv post ⟨rfl, rfl⟩
    simp (maxSteps := 4000000) only [push_cast, Int.reduceEq, Int.reduceBNe, Int.reduceBEq, Int.reduceAdd, Int.reduceSub, Int.reduceMul, Int.reduceNeg, Int.reduceLT, Int.reduceLE, Int.reduceToNat, Nat.reduceLT, Nat.reduceAdd, Nat.reduceSub, Nat.reduceMul, Nat.reduceEqDiff, Nat.reduceLeDiff, Nat.reduceBEq, reduceIte, reduceCtorEq, RawM.v, St.sv, St.cells, rg11]
    refine call_w (putR_c M hW g hg b hb1 hr) [0] (by simp (maxSteps := 4000000) only [push_cast, Int.reduceEq, Int.reduceBNe, Int.reduceBEq, Int.reduceAdd, Int.reduceSub, Int.reduceMul, Int.reduceNeg, Int.reduceLT, Int.reduceLE, Int.reduceToNat, Nat.reduceLT, Nat.reduceAdd, Nat.reduceSub, Nat.reduceMul, Nat.reduceEqDiff, Nat.reduceLeDiff, Nat.reduceBEq, reduceIte, reduceCtorEq, RawM.v]) ?_
    rintro sv post ⟨rfl, rfl⟩
    simp (maxSteps := 4000000) only [push_cast, Int.reduceEq, Int.reduceBNe, Int.reduceBEq, Int.reduceAdd, Int.reduceSub, Int.reduceMul, Int.reduceNeg, Int.reduceLT, Int.reduceLE, Int.reduceToNat, Nat.reduceLT, Nat.reduceAdd, Nat.reduceSub, Nat.reduceMul, Nat.reduceEqDiff, Nat.reduceLeDiff, Nat.reduceBEq, reduceIte, reduceCtorEq, RawM.v, St.sv, St.cells, rg11]
    exact Fin.w [0] (.tup [(x.wholeV M g b).1.sv .new, .i .i64 (x.wholeV M g b).2.2.1, .i .i64 (x.wholeV M g b).2.2.2]) (preR (M.res (x.wholeV M g b).2.1)) (by simp (maxSteps := 4000000) only [push_cast, Int.reduceEq, Int.reduceBNe, Int.reduceBEq, Int.reduceAdd, Int.reduceSub, Int.reduceMul, Int.reduceNeg, Int.reduceLT, Int.reduceLE, Int.reduceToNat, Nat.reduceLT, Nat.reduceAdd, Nat.reduceSub, Nat.reduceMul, Nat.reduceEqDiff, Nat.reduceLeDiff, Nat.reduceBEq, reduceIte, reduceCtorEq, St.wholeV, St.noted, St.sv, St.cells, preR]) ⟨rfl, rfl⟩

theorem aErr0 {x : St} (hb : x.bErr = 0) : x.aErr 0 = 0 := by
  obtain ⟨h1, h2⟩ := bErr_zero hb
  unfold St.aErr
  rw [if_pos h1, if_neg (by simp [h2])]

/-- Unbuffered. -/
theorem putL1_c (M : RawM) (hW : M.Wr) (x : St) (g : M.σ) (hg : M.ok g) (b : List Int) (hb : x.bErr = 0) (hw : x.wErr = 0) (h1 : x.m = 1) (hb0 : b ≠ []) (hb1 : b.length ≤ 1048576) (hr : b.length ≤ M.rm g) (hr2 : x.o.length + 1 ≤ M.rm g) :
    Contract Try.prog 31 (preR (M.res g)) [x.sv .old, M.v, .ints .u8 .old b] (isSN M (x.wholeV M g b)) := by
  have hx : x.fits := by
    obtain ⟨hm, -⟩ := bErr_zero hb
    obtain ⟨b1, b2, b3, b4⟩ := May.bd hm
    exact ⟨by omega, by omega, by omega⟩
  have hb2 := List.length_pos_iff.2 hb0
  refine contract_ev Γok Try.func31 rfl rfl [1] ?_
  simp (maxSteps := 4000000) only [push_cast, Int.reduceEq, Int.reduceBNe, Int.reduceBEq, Int.reduceAdd, Int.reduceSub, Int.reduceMul, Int.reduceNeg, Int.reduceLT, Int.reduceLE, Int.reduceToNat, Nat.reduceLT, Nat.reduceAdd, Nat.reduceSub, Nat.reduceMul, Nat.reduceEqDiff, Nat.reduceLeDiff, Nat.reduceBEq, reduceIte, reduceCtorEq, Try.f31, RawM.v, St.sv, St.cells, rg11]
  refine (region_plan rfl Γok mixed (.pure 0 (.pure 1 (.pure 2 (.pure 3 (.pure 4 (.eff (.cons 5 [0] (.eff (.cons 6 [] (.pure 7 (.pure 8 (.pure 9 (.eff (.cons 10 [0] (.eff (.cons 11 [] (.pure 12 .done) .nil)) .nil))))) (.cons 10 [0] (.eff (.cons 6 [] (.pure 7 (.pure 8 (.pure 9 (.eff (.cons 11 [] (.pure 12 .done) .nil))))) .nil)) .nil))) (.cons 10 [0] (.eff (.cons 5 [0] (.eff (.cons 6 [] (.pure 7 (.pure 8 (.pure 9 (.eff (.cons 11 [] (.pure 12 .done) .nil))))) .nil)) .nil)) .nil)))))))) 101 rfl (by kernel_rfl) ?_)
  simp (maxSteps := 4000000) only [push_cast, Int.reduceEq, Int.reduceBNe, Int.reduceBEq, Int.reduceAdd, Int.reduceSub, Int.reduceMul, Int.reduceNeg, Int.reduceLT, Int.reduceLE, Int.reduceToNat, Nat.reduceLT, Nat.reduceAdd, Nat.reduceSub, Nat.reduceMul, Nat.reduceEqDiff, Nat.reduceLeDiff, Nat.reduceBEq, reduceIte, reduceCtorEq, rg11]
  rw [show decide (1048576 < (b.length : Int)) = false from decide_eq_false (by omega)]
  and_intros
  all_goals
    refine call_w (when_c false 5) [] (by simp (maxSteps := 4000000) only [push_cast, Int.reduceEq, Int.reduceBNe, Int.reduceBEq, Int.reduceAdd, Int.reduceSub, Int.reduceMul, Int.reduceNeg, Int.reduceLT, Int.reduceLE, Int.reduceToNat, Nat.reduceLT, Nat.reduceAdd, Nat.reduceSub, Nat.reduceMul, Nat.reduceEqDiff, Nat.reduceLeDiff, Nat.reduceBEq, reduceIte, reduceCtorEq]) ?_
    rintro sv post ⟨rfl, rfl⟩
    simp (maxSteps := 4000000) only [push_cast, Int.reduceEq, Int.reduceBNe, Int.reduceBEq, Int.reduceAdd, Int.reduceSub, Int.reduceMul, Int.reduceNeg, Int.reduceLT, Int.reduceLE, Int.reduceToNat, Nat.reduceLT, Nat.reduceAdd, Nat.reduceSub, Nat.reduceMul, Nat.reduceEqDiff, Nat.reduceLeDiff, Nat.reduceBEq, reduceIte, reduceCtorEq, rg11]
    and_intros
    all_goals
      refine call_w (asked_c x hx M.t M.y 0) [] (by simp (maxSteps := 4000000) only [push_cast, Int.reduceEq, Int.reduceBNe, Int.reduceBEq, Int.reduceAdd, Int.reduceSub, Int.reduceMul, Int.reduceNeg, Int.reduceLT, Int.reduceLE, Int.reduceToNat, Nat.reduceLT, Nat.reduceAdd, Nat.reduceSub, Nat.reduceMul, Nat.reduceEqDiff, Nat.reduceLeDiff, Nat.reduceBEq, reduceIte, reduceCtorEq, St.sv, St.cells]) ?_
      rintro sv post ⟨rfl, rfl⟩
      rw [aErr0 hb]
      simp (maxSteps := 4000000) only [push_cast, Int.reduceEq, Int.reduceBNe, Int.reduceBEq, Int.reduceAdd, Int.reduceSub, Int.reduceMul, Int.reduceNeg, Int.reduceLT, Int.reduceLE, Int.reduceToNat, Nat.reduceLT, Nat.reduceAdd, Nat.reduceSub, Nat.reduceMul, Nat.reduceEqDiff, Nat.reduceLeDiff, Nat.reduceBEq, reduceIte, reduceCtorEq, St.sv, St.cells, rg11]
      refine ⟨fun h => absurd h (by omega), fun _ => ?_⟩
      refine ⟨fun _ => ?_, fun h => absurd h1 h⟩
      refine call_w (whole_c M hW x g hg hx b hb hw h1 hb0 hb1 hr hr2) [0] (by simp (maxSteps := 4000000) only [push_cast, Int.reduceEq, Int.reduceBNe, Int.reduceBEq, Int.reduceAdd, Int.reduceSub, Int.reduceMul, Int.reduceNeg, Int.reduceLT, Int.reduceLE, Int.reduceToNat, Nat.reduceLT, Nat.reduceAdd, Nat.reduceSub, Nat.reduceMul, Nat.reduceEqDiff, Nat.reduceLeDiff, Nat.reduceBEq, reduceIte, reduceCtorEq, RawM.v, St.sv, St.cells]) ?_
      rintro sv post ⟨rfl, rfl⟩
      simp (maxSteps := 4000000) only [push_cast, Int.reduceEq, Int.reduceBNe, Int.reduceBEq, Int.reduceAdd, Int.reduceSub, Int.reduceMul, Int.reduceNeg, Int.reduceLT, Int.reduceLE, Int.reduceToNat, Nat.reduceLT, Nat.reduceAdd, Nat.reduceSub, Nat.reduceMul, Nat.reduceEqDiff, Nat.reduceLeDiff, Nat.reduceBEq, reduceIte, reduceCtorEq, St.sv, St.cells, rg11]
      exact Fin.w [0] (.tup [(x.wholeV M g b).1.sv .new, .i .i64 (x.wholeV M g b).2.2.1, .i .i64 (x.wholeV M g b).2.2.2]) (preR (M.res (x.wholeV M g b).2.1)) (by simp (maxSteps := 4000000) only [push_cast, Int.reduceEq, Int.reduceBNe, Int.reduceBEq, Int.reduceAdd, Int.reduceSub, Int.reduceMul, Int.reduceNeg, Int.reduceLT, Int.reduceLE, Int.reduceToNat, Nat.reduceLT, Nat.reduceAdd, Nat.reduceSub, Nat.reduceMul, Nat.reduceEqDiff, Nat.reduceLeDiff, Nat.reduceBEq, reduceIte, reduceCtorEq, St.sv, St.cells, preR]) ⟨rfl, rfl⟩

/-- Buffered, and no put fails. -/
theorem putLN_c (M : RawM) (hW : M.Wr) (x : St) (g : M.σ) (b : List Int) (hb : x.bErr = 0) (h1 : b ≠ [] → ¬ x.m = 1) (hb1 : b.length ≤ 1048576) (P : Nat → St → M.σ → Prop) (h0 : P 0 x g)
    (hP : ∀ i y h, i < b.length → P i y h → M.ok h ∧ y.fits ∧ ¬ ((y.o.length : Int) = y.s) ∧ y.o.length + 1 ≤ M.rm h ∧ ∃ y' h', y.Put M h (b.getD i 0) = (y', h', 0) ∧ P (i + 1) y' h') :
    Contract Try.prog 31 (preR (M.res g)) [x.sv .old, M.v, .ints .u8 .old b] (fun sv post => ∃ y h, P b.length y h ∧ isSN M (y, h, (b.length : Int), 0) sv post) := by
  have hx : x.fits := by
    obtain ⟨hm, -⟩ := bErr_zero hb
    obtain ⟨b1, b2, b3, b4⟩ := May.bd hm
    exact ⟨by omega, by omega, by omega⟩
  refine contract_ev Γok Try.func31 rfl rfl [1] ?_
  simp (maxSteps := 4000000) only [push_cast, Int.reduceEq, Int.reduceBNe, Int.reduceBEq, Int.reduceAdd, Int.reduceSub, Int.reduceMul, Int.reduceNeg, Int.reduceLT, Int.reduceLE, Int.reduceToNat, Nat.reduceLT, Nat.reduceAdd, Nat.reduceSub, Nat.reduceMul, Nat.reduceEqDiff, Nat.reduceLeDiff, Nat.reduceBEq, reduceIte, reduceCtorEq, Try.f31, RawM.v, St.sv, St.cells, rg11]
  refine (region_plan rfl Γok mixed (.pure 0 (.pure 1 (.pure 2 (.pure 3 (.pure 4 (.eff (.cons 5 [0] (.eff (.cons 6 [] (.pure 7 (.pure 8 (.pure 9 (.eff (.cons 10 [0] (.eff (.cons 11 [] (.pure 12 .done) .nil)) .nil))))) (.cons 10 [0] (.eff (.cons 6 [] (.pure 7 (.pure 8 (.pure 9 (.eff (.cons 11 [] (.pure 12 .done) .nil))))) .nil)) .nil))) (.cons 10 [0] (.eff (.cons 5 [0] (.eff (.cons 6 [] (.pure 7 (.pure 8 (.pure 9 (.eff (.cons 11 [] (.pure 12 .done) .nil))))) .nil)) .nil)) .nil)))))))) 101 rfl (by kernel_rfl) ?_)
  simp (maxSteps := 4000000) only [push_cast, Int.reduceEq, Int.reduceBNe, Int.reduceBEq, Int.reduceAdd, Int.reduceSub, Int.reduceMul, Int.reduceNeg, Int.reduceLT, Int.reduceLE, Int.reduceToNat, Nat.reduceLT, Nat.reduceAdd, Nat.reduceSub, Nat.reduceMul, Nat.reduceEqDiff, Nat.reduceLeDiff, Nat.reduceBEq, reduceIte, reduceCtorEq, rg11]
  rw [show decide (1048576 < (b.length : Int)) = false from decide_eq_false (by omega)]
  and_intros
  all_goals
    refine call_w (when_c false 5) [] (by simp (maxSteps := 4000000) only [push_cast, Int.reduceEq, Int.reduceBNe, Int.reduceBEq, Int.reduceAdd, Int.reduceSub, Int.reduceMul, Int.reduceNeg, Int.reduceLT, Int.reduceLE, Int.reduceToNat, Nat.reduceLT, Nat.reduceAdd, Nat.reduceSub, Nat.reduceMul, Nat.reduceEqDiff, Nat.reduceLeDiff, Nat.reduceBEq, reduceIte, reduceCtorEq]) ?_
    rintro sv post ⟨rfl, rfl⟩
    simp (maxSteps := 4000000) only [push_cast, Int.reduceEq, Int.reduceBNe, Int.reduceBEq, Int.reduceAdd, Int.reduceSub, Int.reduceMul, Int.reduceNeg, Int.reduceLT, Int.reduceLE, Int.reduceToNat, Nat.reduceLT, Nat.reduceAdd, Nat.reduceSub, Nat.reduceMul, Nat.reduceEqDiff, Nat.reduceLeDiff, Nat.reduceBEq, reduceIte, reduceCtorEq, rg11]
    and_intros
    all_goals
      refine call_w (asked_c x hx M.t M.y 0) [] (by simp (maxSteps := 4000000) only [push_cast, Int.reduceEq, Int.reduceBNe, Int.reduceBEq, Int.reduceAdd, Int.reduceSub, Int.reduceMul, Int.reduceNeg, Int.reduceLT, Int.reduceLE, Int.reduceToNat, Nat.reduceLT, Nat.reduceAdd, Nat.reduceSub, Nat.reduceMul, Nat.reduceEqDiff, Nat.reduceLeDiff, Nat.reduceBEq, reduceIte, reduceCtorEq, St.sv, St.cells]) ?_
      rintro sv post ⟨rfl, rfl⟩
      rw [aErr0 hb]
      simp (maxSteps := 4000000) only [push_cast, Int.reduceEq, Int.reduceBNe, Int.reduceBEq, Int.reduceAdd, Int.reduceSub, Int.reduceMul, Int.reduceNeg, Int.reduceLT, Int.reduceLE, Int.reduceToNat, Nat.reduceLT, Nat.reduceAdd, Nat.reduceSub, Nat.reduceMul, Nat.reduceEqDiff, Nat.reduceLeDiff, Nat.reduceBEq, reduceIte, reduceCtorEq, St.sv, St.cells, rg11]
      refine ⟨fun hz => ?_, fun hnz => ⟨fun h => absurd h (h1 fun hf => hnz (by rw [hf]; rfl)), fun _ => ?_⟩⟩
      · have hn : b = [] := by
          have : b.length = 0 := by omega
          simpa using this
        subst hn
        exact Fin.w [0] (.tup [x.sv .new, .i .i64 0, .i .i64 0]) (preR (M.res g)) (by simp (maxSteps := 4000000) only [push_cast, Int.reduceEq, Int.reduceBNe, Int.reduceBEq, Int.reduceAdd, Int.reduceSub, Int.reduceMul, Int.reduceNeg, Int.reduceLT, Int.reduceLE, Int.reduceToNat, Nat.reduceLT, Nat.reduceAdd, Nat.reduceSub, Nat.reduceMul, Nat.reduceEqDiff, Nat.reduceLeDiff, Nat.reduceBEq, reduceIte, reduceCtorEq, St.sv, St.cells, preR]) ⟨x, g, h0, rfl, rfl⟩
      · refine loop_ok (ι := {q : Nat × St × M.σ // q.1 ≤ b.length ∧ P q.1 q.2.1 q.2.2})
          (fun q => ⟨[.any, .ifc M.t (.raw M.y), .ints .u8 .old b, .any, .any, .any, .ptr 1 0, .any, .any, .ptr 2 0] ++ List.replicate 35 .any ++ [.ints .u8 .old b, .i .i64 b.length, .i .i64 q.1.1] ++ List.replicate 53 .any, [(1, 26, [.b false, .b false, .i .i64 0, .i .i64 0, .ints .u8 .nil [], .ints .u8 .nil [], .ints .u8 .nil [], .i .i64 0, .b false, .b false, .b false]), (2, 26, q.1.2.1.cells .new .new .new)], [], [(0, M.res q.1.2.2)], 3, 1, []⟩)
          (fun q => b.length - q.1.1) ⟨(0, x, g), Nat.zero_le _, h0⟩ ?_ ?_
        · refine Sub.w [0, 2, 3] ?_
          simp (maxSteps := 4000000) only [push_cast, Int.reduceEq, Int.reduceBNe, Int.reduceBEq, Int.reduceAdd, Int.reduceSub, Int.reduceMul, Int.reduceNeg, Int.reduceLT, Int.reduceLE, Int.reduceToNat, Nat.reduceLT, Nat.reduceAdd, Nat.reduceSub, Nat.reduceMul, Nat.reduceEqDiff, Nat.reduceLeDiff, Nat.reduceBEq, reduceIte, reduceCtorEq, St.cells]
        · rintro ⟨⟨i, y, h⟩, hi, hy⟩
          simp only at hi hy
          refine evCode_sound Γok _ _ _ ?_
          simp (maxSteps := 4000000) only [push_cast, Int.reduceEq, Int.reduceBNe, Int.reduceBEq, Int.reduceAdd, Int.reduceSub, Int.reduceMul, Int.reduceNeg, Int.reduceLT, Int.reduceLE, Int.reduceToNat, Nat.reduceLT, Nat.reduceAdd, Nat.reduceSub, Nat.reduceMul, Nat.reduceEqDiff, Nat.reduceLeDiff, Nat.reduceBEq, reduceIte, reduceCtorEq, St.cells, rg11]
          refine ⟨fun hi1 => ?_, fun hi1 => ?_⟩
          · obtain ⟨k1, k2, k3, k4, y', h', k5, k6⟩ := hP i y h (by omega) hy
            refine ⟨⟨by omega, by omega⟩, fun hf => absurd hf k3, fun _ => ?_⟩
            refine call_w (PutR_c M hW y h k1 k2 (b.getD (i : Int).toNat 0) k4) [0] (by simp (maxSteps := 4000000) only [push_cast, Int.reduceEq, Int.reduceBNe, Int.reduceBEq, Int.reduceAdd, Int.reduceSub, Int.reduceMul, Int.reduceNeg, Int.reduceLT, Int.reduceLE, Int.reduceToNat, Nat.reduceLT, Nat.reduceAdd, Nat.reduceSub, Nat.reduceMul, Nat.reduceEqDiff, Nat.reduceLeDiff, Nat.reduceBEq, reduceIte, reduceCtorEq, RawM.v, St.sv, St.cells]) ?_
            rintro sv post ⟨rfl, rfl⟩
            rw [Int.toNat_natCast, k5]
            simp (maxSteps := 4000000) only [push_cast, Int.reduceEq, Int.reduceBNe, Int.reduceBEq, Int.reduceAdd, Int.reduceSub, Int.reduceMul, Int.reduceNeg, Int.reduceLT, Int.reduceLE, Int.reduceToNat, Nat.reduceLT, Nat.reduceAdd, Nat.reduceSub, Nat.reduceMul, Nat.reduceEqDiff, Nat.reduceLeDiff, Nat.reduceBEq, reduceIte, reduceCtorEq, St.sv, St.cells, rg11]
            refine ⟨fun hf => hf.1.elim, ⟨⟨(i + 1, y', h'), by simp only; omega, k6⟩, by simp only; omega, Sub.w [0, 1, 2] ?_⟩⟩
            simp (maxSteps := 4000000) only [push_cast, Int.reduceEq, Int.reduceBNe, Int.reduceBEq, Int.reduceAdd, Int.reduceSub, Int.reduceMul, Int.reduceNeg, Int.reduceLT, Int.reduceLE, Int.reduceToNat, Nat.reduceLT, Nat.reduceAdd, Nat.reduceSub, Nat.reduceMul, Nat.reduceEqDiff, Nat.reduceLeDiff, Nat.reduceBEq, reduceIte, reduceCtorEq, St.cells]
            exact (wrap64 (n := (i : Int) + 1) (by omega) (by omega)).symm
          · have hie : i = b.length := by omega
            subst hie
            exact Fin.w [0] (.tup [y.sv .new, .i .i64 b.length, .i .i64 0]) (preR (M.res h)) (by simp (maxSteps := 4000000) only [push_cast, Int.reduceEq, Int.reduceBNe, Int.reduceBEq, Int.reduceAdd, Int.reduceSub, Int.reduceMul, Int.reduceNeg, Int.reduceLT, Int.reduceLE, Int.reduceToNat, Nat.reduceLT, Nat.reduceAdd, Nat.reduceSub, Nat.reduceMul, Nat.reduceEqDiff, Nat.reduceLeDiff, Nat.reduceBEq, reduceIte, reduceCtorEq, St.sv, St.cells, preR]) ⟨y, h, hy, rfl, rfl⟩
end Go.Proofs.Ytbhkpefjnomncaa
/- Lines: the page's example. -/
namespace Go.Proofs.Ytbhkpefjnomncaa
open Go Go.Eng
set_option maxHeartbeats 4000000
set_option linter.unusedSimpArgs false
set_option linter.unusedVariables false
set_option maxRecDepth 100000

theorem wrapZ : IntKind.i64.wrap 0 = 0 := rfl
set_option maxHeartbeats 2000000 in
theorem alive15_c : Contract Try.prog 29 nilSS [] (fun sv post => sv = .b true ∧ post = nilSS) := by
  have e0 : newSt true false 3 4 = ⟨true, false, 3, 4, [], [], [], 0, false, false, false⟩ := rfl
  have hR := fun b => readerM_rd [97, 98, 10, 99, 100] b (by simp)
  have hv : ∀ b, (readerM [97, 98, 10, 99, 100] b).v = .ifc 69 (.raw (.pointer (some ⟨b, 0, none⟩))) := fun b => rfl
  have hr : ∀ b (p : Int), (readerM [97, 98, 10, 99, 100] b).res p = (readerS [97, 98, 10, 99, 100] p).res b := fun b p => rfl
  have q1 : strOf [97, 98, 10] = ⟨#[97, 98, 10]⟩ := rfl
  have q2 : strOf [99] = ⟨#[99]⟩ := rfl
  have q3 : strOf [100] = ⟨#[100]⟩ := rfl
  have may0 : mayV 3 4 = 0 := rfl
  refine contract_ev Γok Try.func29 rfl rfl [] ?_
  simp (maxSteps := 4000000) only [push_cast, Int.reduceEq, Int.reduceBNe, Int.reduceBEq, Int.reduceAdd, Int.reduceSub, Int.reduceMul, Int.reduceNeg, Int.reduceLT, Int.reduceLE, Int.reduceToNat, Nat.reduceLT, Nat.reduceAdd, Nat.reduceSub, Nat.reduceMul, Nat.reduceEqDiff, Nat.reduceLeDiff, Nat.reduceBEq, reduceIte, reduceCtorEq, Try.f29]
  refine call_w (newReader_c [97, 98, 10, 99, 100] (by simp)) [] (by simp (maxSteps := 4000000) only [push_cast, Int.reduceEq, Int.reduceBNe, Int.reduceBEq, Int.reduceAdd, Int.reduceSub, Int.reduceMul, Int.reduceNeg, Int.reduceLT, Int.reduceLE, Int.reduceToNat, Nat.reduceLT, Nat.reduceAdd, Nat.reduceSub, Nat.reduceMul, Nat.reduceEqDiff, Nat.reduceLeDiff, Nat.reduceBEq, reduceIte, reduceCtorEq]) ?_
  rintro sv post ⟨b, rfl, rfl⟩
  simp (maxSteps := 4000000) only [push_cast, Int.reduceEq, Int.reduceBNe, Int.reduceBEq, Int.reduceAdd, Int.reduceSub, Int.reduceMul, Int.reduceNeg, Int.reduceLT, Int.reduceLE, Int.reduceToNat, Nat.reduceLT, Nat.reduceAdd, Nat.reduceSub, Nat.reduceMul, Nat.reduceEqDiff, Nat.reduceLeDiff, Nat.reduceBEq, reduceIte, reduceCtorEq]
  refine call_w (newS_c _ _ _ _ _ _ _ _ openR_c 3 4) [] (by simp (maxSteps := 4000000) only [push_cast, Int.reduceEq, Int.reduceBNe, Int.reduceBEq, Int.reduceAdd, Int.reduceSub, Int.reduceMul, Int.reduceNeg, Int.reduceLT, Int.reduceLE, Int.reduceToNat, Nat.reduceLT, Nat.reduceAdd, Nat.reduceSub, Nat.reduceMul, Nat.reduceEqDiff, Nat.reduceLeDiff, Nat.reduceBEq, reduceIte, reduceCtorEq, modeV]) ?_
  rintro sv post ⟨rfl, rfl⟩
  simp (maxSteps := 4000000) only [push_cast, Int.reduceEq, Int.reduceBNe, Int.reduceBEq, Int.reduceAdd, Int.reduceSub, Int.reduceMul, Int.reduceNeg, Int.reduceLT, Int.reduceLE, Int.reduceToNat, Nat.reduceLT, Nat.reduceAdd, Nat.reduceSub, Nat.reduceMul, Nat.reduceEqDiff, Nat.reduceLeDiff, Nat.reduceBEq, reduceIte, reduceCtorEq, St.sv, St.cells]
  refine call_w (num15_c 0) [] (by simp (maxSteps := 4000000) only [push_cast, Int.reduceEq, Int.reduceBNe, Int.reduceBEq, Int.reduceAdd, Int.reduceSub, Int.reduceMul, Int.reduceNeg, Int.reduceLT, Int.reduceLE, Int.reduceToNat, Nat.reduceLT, Nat.reduceAdd, Nat.reduceSub, Nat.reduceMul, Nat.reduceEqDiff, Nat.reduceLeDiff, Nat.reduceBEq, reduceIte, reduceCtorEq]) ?_
  rintro sv post ⟨rfl, rfl⟩
  simp (maxSteps := 4000000) only [push_cast, Int.reduceEq, Int.reduceBNe, Int.reduceBEq, Int.reduceAdd, Int.reduceSub, Int.reduceMul, Int.reduceNeg, Int.reduceLT, Int.reduceLE, Int.reduceToNat, Nat.reduceLT, Nat.reduceAdd, Nat.reduceSub, Nat.reduceMul, Nat.reduceEqDiff, Nat.reduceLeDiff, Nat.reduceBEq, reduceIte, reduceCtorEq, may0]
  refine call_w (num15_c 0) [] (by simp (maxSteps := 4000000) only [push_cast, Int.reduceEq, Int.reduceBNe, Int.reduceBEq, Int.reduceAdd, Int.reduceSub, Int.reduceMul, Int.reduceNeg, Int.reduceLT, Int.reduceLE, Int.reduceToNat, Nat.reduceLT, Nat.reduceAdd, Nat.reduceSub, Nat.reduceMul, Nat.reduceEqDiff, Nat.reduceLeDiff, Nat.reduceBEq, reduceIte, reduceCtorEq]) ?_
  rintro sv post ⟨rfl, rfl⟩
  simp (maxSteps := 4000000) only [push_cast, Int.reduceEq, Int.reduceBNe, Int.reduceBEq, Int.reduceAdd, Int.reduceSub, Int.reduceMul, Int.reduceNeg, Int.reduceLT, Int.reduceLE, Int.reduceToNat, Nat.reduceLT, Nat.reduceAdd, Nat.reduceSub, Nat.reduceMul, Nat.reduceEqDiff, Nat.reduceLeDiff, Nat.reduceBEq, reduceIte, reduceCtorEq, e0, rg11, wrapZ]
  refine call_w (LineR_c (readerM [97, 98, 10, 99, 100] b) (hR b) (newSt true false 3 4) (by exact ⟨by decide, by decide, by decide⟩) (0 : Int) (by exact ⟨by decide, by decide⟩) 9) [2] (by simp (maxSteps := 4000000) only [push_cast, Int.reduceEq, Int.reduceBNe, Int.reduceBEq, Int.reduceAdd, Int.reduceSub, Int.reduceMul, Int.reduceNeg, Int.reduceLT, Int.reduceLE, Int.reduceToNat, Nat.reduceLT, Nat.reduceAdd, Nat.reduceSub, Nat.reduceMul, Nat.reduceEqDiff, Nat.reduceLeDiff, Nat.reduceBEq, reduceIte, reduceCtorEq, hv, hr, St.sv, St.cells, e0, exSt]) ?_
  rintro sv post ⟨rfl, rfl⟩
  rw [ex1 b]
  simp (maxSteps := 4000000) only [push_cast, Int.reduceEq, Int.reduceBNe, Int.reduceBEq, Int.reduceAdd, Int.reduceSub, Int.reduceMul, Int.reduceNeg, Int.reduceLT, Int.reduceLE, Int.reduceToNat, Nat.reduceLT, Nat.reduceAdd, Nat.reduceSub, Nat.reduceMul, Nat.reduceEqDiff, Nat.reduceLeDiff, Nat.reduceBEq, reduceIte, reduceCtorEq, hv, hr, St.sv, St.cells, exSt, rg11]
  refine call_w (LineR_c (readerM [97, 98, 10, 99, 100] b) (hR b) (exSt [99] false) (by exact ⟨by decide, by decide, by decide⟩) (4 : Int) (by exact ⟨by decide, by decide⟩) 1) [2] (by simp (maxSteps := 4000000) only [push_cast, Int.reduceEq, Int.reduceBNe, Int.reduceBEq, Int.reduceAdd, Int.reduceSub, Int.reduceMul, Int.reduceNeg, Int.reduceLT, Int.reduceLE, Int.reduceToNat, Nat.reduceLT, Nat.reduceAdd, Nat.reduceSub, Nat.reduceMul, Nat.reduceEqDiff, Nat.reduceLeDiff, Nat.reduceBEq, reduceIte, reduceCtorEq, hv, hr, St.sv, St.cells, e0, exSt]) ?_
  rintro sv post ⟨rfl, rfl⟩
  rw [ex2 b]
  simp (maxSteps := 4000000) only [push_cast, Int.reduceEq, Int.reduceBNe, Int.reduceBEq, Int.reduceAdd, Int.reduceSub, Int.reduceMul, Int.reduceNeg, Int.reduceLT, Int.reduceLE, Int.reduceToNat, Nat.reduceLT, Nat.reduceAdd, Nat.reduceSub, Nat.reduceMul, Nat.reduceEqDiff, Nat.reduceLeDiff, Nat.reduceBEq, reduceIte, reduceCtorEq, hv, hr, St.sv, St.cells, exSt, rg11]
  refine call_w (LineR_c (readerM [97, 98, 10, 99, 100] b) (hR b) (exSt [] false) (by exact ⟨by decide, by decide, by decide⟩) (4 : Int) (by exact ⟨by decide, by decide⟩) 9) [2] (by simp (maxSteps := 4000000) only [push_cast, Int.reduceEq, Int.reduceBNe, Int.reduceBEq, Int.reduceAdd, Int.reduceSub, Int.reduceMul, Int.reduceNeg, Int.reduceLT, Int.reduceLE, Int.reduceToNat, Nat.reduceLT, Nat.reduceAdd, Nat.reduceSub, Nat.reduceMul, Nat.reduceEqDiff, Nat.reduceLeDiff, Nat.reduceBEq, reduceIte, reduceCtorEq, hv, hr, St.sv, St.cells, e0, exSt]) ?_
  rintro sv post ⟨rfl, rfl⟩
  rw [ex3 b]
  simp (maxSteps := 4000000) only [push_cast, Int.reduceEq, Int.reduceBNe, Int.reduceBEq, Int.reduceAdd, Int.reduceSub, Int.reduceMul, Int.reduceNeg, Int.reduceLT, Int.reduceLE, Int.reduceToNat, Nat.reduceLT, Nat.reduceAdd, Nat.reduceSub, Nat.reduceMul, Nat.reduceEqDiff, Nat.reduceLeDiff, Nat.reduceBEq, reduceIte, reduceCtorEq, hv, hr, St.sv, St.cells, exSt, rg11]
  refine call_w (LineR_c (readerM [97, 98, 10, 99, 100] b) (hR b) (exSt [] true) (by exact ⟨by decide, by decide, by decide⟩) (5 : Int) (by exact ⟨by decide, by decide⟩) 9) [2] (by simp (maxSteps := 4000000) only [push_cast, Int.reduceEq, Int.reduceBNe, Int.reduceBEq, Int.reduceAdd, Int.reduceSub, Int.reduceMul, Int.reduceNeg, Int.reduceLT, Int.reduceLE, Int.reduceToNat, Nat.reduceLT, Nat.reduceAdd, Nat.reduceSub, Nat.reduceMul, Nat.reduceEqDiff, Nat.reduceLeDiff, Nat.reduceBEq, reduceIte, reduceCtorEq, hv, hr, St.sv, St.cells, e0, exSt]) ?_
  rintro sv post ⟨rfl, rfl⟩
  rw [ex4 b]
  simp (maxSteps := 4000000) only [push_cast, Int.reduceEq, Int.reduceBNe, Int.reduceBEq, Int.reduceAdd, Int.reduceSub, Int.reduceMul, Int.reduceNeg, Int.reduceLT, Int.reduceLE, Int.reduceToNat, Nat.reduceLT, Nat.reduceAdd, Nat.reduceSub, Nat.reduceMul, Nat.reduceEqDiff, Nat.reduceLeDiff, Nat.reduceBEq, reduceIte, reduceCtorEq, hv, hr, St.sv, St.cells, exSt, rg11]
  refine call_w (num15_c 0) [] (by simp (maxSteps := 4000000) only [push_cast, Int.reduceEq, Int.reduceBNe, Int.reduceBEq, Int.reduceAdd, Int.reduceSub, Int.reduceMul, Int.reduceNeg, Int.reduceLT, Int.reduceLE, Int.reduceToNat, Nat.reduceLT, Nat.reduceAdd, Nat.reduceSub, Nat.reduceMul, Nat.reduceEqDiff, Nat.reduceLeDiff, Nat.reduceBEq, reduceIte, reduceCtorEq]) ?_
  rintro sv post ⟨rfl, rfl⟩
  simp (maxSteps := 4000000) only [push_cast, Int.reduceEq, Int.reduceBNe, Int.reduceBEq, Int.reduceAdd, Int.reduceSub, Int.reduceMul, Int.reduceNeg, Int.reduceLT, Int.reduceLE, Int.reduceToNat, Nat.reduceLT, Nat.reduceAdd, Nat.reduceSub, Nat.reduceMul, Nat.reduceEqDiff, Nat.reduceLeDiff, Nat.reduceBEq, reduceIte, reduceCtorEq]
  refine call_w (num15_c 0) [] (by simp (maxSteps := 4000000) only [push_cast, Int.reduceEq, Int.reduceBNe, Int.reduceBEq, Int.reduceAdd, Int.reduceSub, Int.reduceMul, Int.reduceNeg, Int.reduceLT, Int.reduceLE, Int.reduceToNat, Nat.reduceLT, Nat.reduceAdd, Nat.reduceSub, Nat.reduceMul, Nat.reduceEqDiff, Nat.reduceLeDiff, Nat.reduceBEq, reduceIte, reduceCtorEq]) ?_
  rintro sv post ⟨rfl, rfl⟩
  simp (maxSteps := 4000000) only [push_cast, Int.reduceEq, Int.reduceBNe, Int.reduceBEq, Int.reduceAdd, Int.reduceSub, Int.reduceMul, Int.reduceNeg, Int.reduceLT, Int.reduceLE, Int.reduceToNat, Nat.reduceLT, Nat.reduceAdd, Nat.reduceSub, Nat.reduceMul, Nat.reduceEqDiff, Nat.reduceLeDiff, Nat.reduceBEq, reduceIte, reduceCtorEq]
  refine call_w (num15_c 0) [] (by simp (maxSteps := 4000000) only [push_cast, Int.reduceEq, Int.reduceBNe, Int.reduceBEq, Int.reduceAdd, Int.reduceSub, Int.reduceMul, Int.reduceNeg, Int.reduceLT, Int.reduceLE, Int.reduceToNat, Nat.reduceLT, Nat.reduceAdd, Nat.reduceSub, Nat.reduceMul, Nat.reduceEqDiff, Nat.reduceLeDiff, Nat.reduceBEq, reduceIte, reduceCtorEq]) ?_
  rintro sv post ⟨rfl, rfl⟩
  simp (maxSteps := 4000000) only [push_cast, Int.reduceEq, Int.reduceBNe, Int.reduceBEq, Int.reduceAdd, Int.reduceSub, Int.reduceMul, Int.reduceNeg, Int.reduceLT, Int.reduceLE, Int.reduceToNat, Nat.reduceLT, Nat.reduceAdd, Nat.reduceSub, Nat.reduceMul, Nat.reduceEqDiff, Nat.reduceLeDiff, Nat.reduceBEq, reduceIte, reduceCtorEq, wrapZ, q1, q2, q3]
  refine call_w (num15_c 111) [] (by simp (maxSteps := 4000000) only [push_cast, Int.reduceEq, Int.reduceBNe, Int.reduceBEq, Int.reduceAdd, Int.reduceSub, Int.reduceMul, Int.reduceNeg, Int.reduceLT, Int.reduceLE, Int.reduceToNat, Nat.reduceLT, Nat.reduceAdd, Nat.reduceSub, Nat.reduceMul, Nat.reduceEqDiff, Nat.reduceLeDiff, Nat.reduceBEq, reduceIte, reduceCtorEq]) ?_
  rintro sv post ⟨rfl, rfl⟩
  simp (maxSteps := 4000000) only [push_cast, Int.reduceEq, Int.reduceBNe, Int.reduceBEq, Int.reduceAdd, Int.reduceSub, Int.reduceMul, Int.reduceNeg, Int.reduceLT, Int.reduceLE, Int.reduceToNat, Nat.reduceLT, Nat.reduceAdd, Nat.reduceSub, Nat.reduceMul, Nat.reduceEqDiff, Nat.reduceLeDiff, Nat.reduceBEq, reduceIte, reduceCtorEq]
  exact Fin.nil rfl (psv := .b true) rfl ⟨rfl, rfl⟩
end Go.Proofs.Ytbhkpefjnomncaa
/- What is put onto a stream over memory that grows: it is there, or held. -/
namespace Go.Proofs.Ytbhkpefjnomncaa
open Go Go.Eng
set_option maxHeartbeats 4000000
set_option linter.unusedSimpArgs false
set_option linter.unusedVariables false
set_option maxRecDepth 100000

/-- A stream that writes at the end of memory. -/
structure HG (x : St) (g : List Int × Int) (all : List Int) : Prop where
  may : x.May
  w : x.w = true
  cl : x.cl = false
  d : x.d ≠ 1
  iz : x.i = []
  kz : x.k = []
  eq : g.1 ++ x.o = all
  at_ : g.2 = g.1.length
  lt : (x.o.length : Int) < x.s

theorem HG.bErr {x : St} {g : List Int × Int} {all : List Int} (h : HG x g all) : x.bErr = 0 := by
  unfold St.bErr; rw [if_pos h.may, if_neg (by simp [h.cl])]
theorem HG.fits {x : St} {g : List Int × Int} {all : List Int} (h : HG x g all) : x.fits := by
  obtain ⟨b1, b2, b3, b4⟩ := May.bd h.may
  exact ⟨by omega, by omega, by omega⟩
theorem HG.glen {x : St} {g : List Int × Int} {all : List Int} (h : HG x g all) : g.1.length + x.o.length = all.length := by
  have := congrArg List.length h.eq
  rw [List.length_append] at this
  exact this
theorem HG.ok {b : Nat} {x : St} {g : List Int × Int} {all : List Int} (h : HG x g all) (hl : all.length ≤ 1048576) : (growM b).ok g := by
  have := h.glen
  exact ⟨by rw [h.at_]; omega, by rw [h.at_]; omega, by omega⟩
theorem HG.rm {b : Nat} {x : St} {g : List Int × Int} {all : List Int} (h : HG x g all) : x.o.length + 1 ≤ (growM b).rm g := by
  have := May.bd h.may
  show _ ≤ 1125899906842624
  omega
theorem hg_new {m s : Int} (h : mayV m s = 0) : HG (newSt false true m s) ([], 0) [] := by
  have e := newSt_ok false true h
  obtain ⟨a1, a2, a3, a4⟩ := may_zero' h
  exact ⟨newSt_may false true h, by rw [e], by rw [e], by rw [e]; simp, by rw [e], by rw [e], by rw [e]; rfl, rfl, by rw [e]; simp; omega⟩

theorem wrote_end (data l : List Int) : wrote data data.length l = data ++ l := by
  unfold wrote
  have h1 : (data ++ List.replicate (data.length + l.length - data.length) 0).take data.length = data := by
    rw [List.take_append_of_le_length (Nat.le_refl _), List.take_length]
  rw [h1, List.drop_of_length_le (by omega), List.append_nil]
theorem grow_end (b : Nat) {x : St} {g : List Int × Int} {all : List Int} (h : HG x g all) (l : List Int) (hl : g.1.length + l.length ≤ 1048576) :
    putV (growM b) g l = ((g.1 ++ l, ((g.1 ++ l).length : Int)), [], 0) := by
  rw [grow_putV b g l (by rw [h.at_]; omega) (by rw [h.at_]; omega)]
  by_cases hn : l = []
  · subst hn
    rw [if_pos rfl, List.append_nil, ← h.at_]
  · rw [if_neg hn, h.at_, Int.toNat_natCast, wrote_end, List.length_append]
    rw [show ((g.1.length + l.length : Nat) : Int) = g.1.length + l.length by omega]

theorem hg_put (b : Nat) {x : St} {g : List Int × Int} {all : List Int} (h : HG x g all) (c : Int) (hl : all.length + 1 ≤ 1048576) :
    ∃ x' g', x.Put (growM b) g c = (x', g', 0) ∧ HG x' g' (all ++ [c]) ∧ x'.m = x.m ∧ x'.s = x.s := by
  have hb := h.bErr
  have hgl := h.glen
  have hge := fun l hl => grow_end b h l hl
  obtain ⟨r, w, m, s, o, i, k, d, en, bad, cl⟩ := x
  obtain ⟨h1, h2, h3, h4, h5, h6, h7, hat, hlt⟩ := h
  simp only at h2 h3 h4 h5 h6 h7 hlt hgl
  subst h2 h3 h5 h6
  obtain ⟨m1, m2, m3, m4, m5, m6, m7⟩ := h1
  simp only at m1 m2 m3
  obtain ⟨a1, a2, a3, a4⟩ := may_zero' m1
  have mk : ∀ (o' : List Int), o'.length ≤ s → (¬ m = 1 ∨ o'.length = 0) → St.May ⟨r, true, m, s, o', [], [], 2, en, bad, false⟩ := fun o' q1 q2 =>
    ⟨m1, q1, q2, by simp, by simp, .inl rfl, .inr (.inr ⟨rfl, rfl, rfl, rfl⟩)⟩
  have hwe : St.wErr ⟨r, true, m, s, o, [], [], d, en, bad, false⟩ = 0 := by simp [St.wErr, h4]
  have hnote : ∀ (y : St), y.noted 0 = y := fun y => by simp [St.noted]
  unfold St.Put St.put
  rw [if_neg (by rw [hb]; simp), if_neg (by rw [hwe]; simp)]
  dsimp only
  split
  · rename_i hm
    have ho : o = [] := by
      have : o.length = 0 := by omega
      simpa using this
    subst ho
    rw [hge [c] (by simp; omega), hnote]
    refine ⟨_, _, rfl, ⟨mk [] (by simp; omega) (.inr rfl), rfl, rfl, by simp, rfl, rfl, ?_, rfl, by simp; omega⟩, rfl, rfl⟩
    rw [← h7]; simp
  · rename_i hm
    rw [if_neg (by omega)]
    unfold St.put1
    dsimp only
    have hol : (o ++ [c]).length = o.length + 1 := by simp
    split
    · have hdel : St.deliver (growM b) ⟨r, true, m, s, o ++ [c], [], [], 2, en, bad, false⟩ g = (⟨r, true, m, s, [], [], [], 2, en, bad, false⟩, (g.1 ++ (o ++ [c]), ((g.1 ++ (o ++ [c])).length : Int)), 0) := by
        unfold St.deliver
        dsimp only
        rw [hge (o ++ [c]) (by rw [hol]; omega), hnote]
        rfl
      rw [hdel]
      refine ⟨_, _, rfl, ⟨mk [] (by simp; omega) (.inr rfl), rfl, rfl, by simp, rfl, rfl, ?_, rfl, by simp; omega⟩, rfl, rfl⟩
      rw [← h7]; simp
    · rename_i hc
      refine ⟨_, _, rfl, ⟨mk (o ++ [c]) (by rw [hol]; omega) (.inl hm), rfl, rfl, by simp, rfl, rfl, ?_, hat, ?_⟩, rfl, rfl⟩
      · rw [← h7]; simp
      · dsimp only; rw [hol] at hc ⊢; omega

theorem hg_whole (b : Nat) {x : St} {g : List Int × Int} {all : List Int} (h : HG x g all) (l : List Int) (h1 : x.m = 1) (hl : all.length + l.length ≤ 1048576) :
    ∃ x' g', x.wholeV (growM b) g l = (x', g', (l.length : Int), 0) ∧ HG x' g' (all ++ l) ∧ x'.m = x.m ∧ x'.s = x.s := by
  have hgl := h.glen
  have ho : x.o = [] := by
    have := h.may.2.2.1
    have : x.o.length = 0 := by omega
    simpa using this
  have he := h.eq
  rw [ho, List.append_nil] at he
  have hp := grow_end b h l (by omega)
  obtain ⟨m1, m2, m3, m4, m5, m6, m7⟩ := h.may
  obtain ⟨a1, a2, a3, a4⟩ := may_zero' m1
  unfold St.wholeV
  rw [hp]
  refine ⟨{ x with d := 2 }, (g.1 ++ l, ((g.1 ++ l).length : Int)), ?_, ⟨⟨m1, m2, m3, m4, m5, .inl h.cl, .inr (.inr ⟨rfl, h.w, by rw [show ({ x with d := 2 } : St).i = x.i from rfl, h.iz]; rfl, by rw [show ({ x with d := 2 } : St).k = x.k from rfl, h.kz]; rfl⟩)⟩, h.w, h.cl, by simp, h.iz, h.kz, ?_, rfl, h.lt⟩, rfl, rfl⟩
  · simp [St.noted]
  · show g.1 ++ l ++ x.o = all ++ l
    rw [ho, List.append_nil, he]

theorem hg_close (b : Nat) {x : St} {g : List Int × Int} {all : List Int} (h : HG x g all) (hl : all.length ≤ 1048576) :
    ∃ x', x.Close (growM b) g = (x', (all, (all.length : Int)), 0) := by
  have hb := h.bErr
  have hgl := h.glen
  have hp := grow_end b h x.o (by omega)
  unfold St.Close St.deliver
  rw [if_neg (by rw [hb]; simp)]
  dsimp only
  rw [hp, h.eq]
  exact ⟨_, rfl⟩

theorem hgPut_c (b : Nat) {x : St} {g : List Int × Int} {all : List Int} (h : HG x g all) (l : List Int) (hl : all.length + l.length ≤ 1048576) :
    Contract Try.prog 31 (preR ((growM b).res g)) [x.sv .old, (growM b).v, .ints .u8 .old l]
      (fun sv post => ∃ y k, (HG y k (all ++ l) ∧ y.m = x.m ∧ y.s = x.s) ∧ isSN (growM b) (y, k, (l.length : Int), 0) sv post) := by
  have hgl := h.glen
  by_cases hc : l ≠ [] ∧ x.m = 1
  · obtain ⟨hn, h1⟩ := hc
    have hw : x.wErr = 0 := by unfold St.wErr; rw [if_neg (by simp [h.w]), if_neg (fun hf => h.d hf.1)]
    obtain ⟨x', g', q1, q2⟩ := hg_whole b h l h1 hl
    have hp := putL1_c (growM b) (growM_wr b) x g (h.ok (by omega)) l h.bErr hw h1 hn (by omega) (by show _ ≤ 1125899906842624; omega) h.rm
    rw [q1] at hp
    exact Contract.mono hp fun sv post hs => ⟨x', g', q2, hs⟩
  · have hp := putLN_c (growM b) (growM_wr b) x g l h.bErr (fun hn hf => hc ⟨hn, hf⟩) (by omega) (fun i y k => HG y k (all ++ l.take i) ∧ y.m = x.m ∧ y.s = x.s) ⟨by simpa using h, rfl, rfl⟩ (fun i y k hi hy => by
      have hlt : (all ++ l.take i).length + 1 ≤ 1048576 := by simp; omega
      obtain ⟨y', k', q1, q2, q3, q4⟩ := hg_put b hy.1 (l.getD i 0) hlt
      refine ⟨hy.1.ok (by omega), hy.1.fits, by have := hy.1.lt; omega, hy.1.rm, y', k', q1, ?_, q3.trans hy.2.1, q4.trans hy.2.2⟩
      have ht : l.take (i + 1) = l.take i ++ [l.getD i 0] := by
        rw [List.take_succ_eq_append_getElem hi]; simp [List.getD, hi]
      rw [ht, ← List.append_assoc]
      exact q2)
    refine Contract.mono hp ?_
    rintro sv post ⟨y, k, hy, hs⟩
    rw [List.take_length] at hy
    exact ⟨y, k, hy, hs⟩
end Go.Proofs.Ytbhkpefjnomncaa
/- Blocks: how many bytes some elements are; what is asked first. -/
namespace Go.Proofs.Ytbhkpefjnomncaa
open Go Go.Eng
set_option maxHeartbeats 4000000
set_option linter.unusedSimpArgs false
set_option linter.unusedVariables false
set_option maxRecDepth 100000

theorem wrapu (n : Nat) (h : n < 18446744073709551616) : IntKind.u64.wrap (n : Int) = (n : Int) := by
  rw [IntKind.wrap_u64]; omega
theorem and32 (x : Nat) (h : x < 18446744073709551616) : andI .u64 (x : Int) 4294967295 = ((x % 4294967296 : Nat) : Int) := by
  have e : (BitVec.ofInt IntKind.u64.bits (x : Int) &&& BitVec.ofInt IntKind.u64.bits 4294967295).toNat = x % 4294967296 := by
    show (BitVec.ofInt 64 (x : Int) &&& BitVec.ofNat 64 4294967295).toNat = _
    rw [BitVec.toNat_and, BitVec.ofInt_natCast, BitVec.toNat_ofNat, Nat.mod_eq_of_lt h]
    exact Nat.and_two_pow_sub_one_eq_mod x 32
  unfold andI
  rw [e, wrapu _ (by omega)]
theorem shr32 (x : Nat) : shrI .u64 (x : Int) 32 = ((x / 4294967296 : Nat) : Int) := by
  show (x : Int).fdiv (2 ^ min (32 : Int).toNat 64) = _
  rw [Int.fdiv_eq_ediv_of_nonneg _ (by decide)]
  rfl
theorem mulc (x y : Nat) : (x : Int) * (y : Int) = ((x * y : Nat) : Int) := (Int.natCast_mul x y).symm
theorem addc (x y : Nat) : (x : Int) + (y : Int) = ((x + y : Nat) : Int) := (Int.natCast_add x y).symm

def hi64 (x y : Nat) : Int := ((x * y / 18446744073709551616 : Nat) : Int)
def lo64 (x y : Nat) : Int := ((x * y % 18446744073709551616 : Nat) : Int)
theorem mul64_c (x y : Int) (m n : Nat) (hm : x = m) (hn : y = n) (hx : m < 18446744073709551616) (hy : n < 18446744073709551616) : Contract Try.prog 78 nilSS [.i .u64 x, .i .u64 y] (fun sv post => sv = .tup [.i .u64 (hi64 m n), .i .u64 (lo64 m n)] ∧ post = nilSS) := by
  refine contract_ev Γok Try.func78 rfl rfl [] ?_
  simp (maxSteps := 4000000) only [push_cast, Int.reduceEq, Int.reduceBNe, Int.reduceBEq, Int.reduceAdd, Int.reduceSub, Int.reduceMul, Int.reduceNeg, Int.reduceLT, Int.reduceLE, Int.reduceToNat, Nat.reduceLT, Nat.reduceAdd, Nat.reduceSub, Nat.reduceMul, Nat.reduceEqDiff, Nat.reduceLeDiff, Nat.reduceBEq, reduceIte, reduceCtorEq, Try.f78]
  subst hm hn
  obtain ⟨h1, h2, h3, h4⟩ := Go.Lib.mul64_hi m n hx hy
  have b1 : m % 4294967296 < 4294967296 := by omega
  have b2 : n % 4294967296 < 4294967296 := by omega
  have b3 : m / 4294967296 < 4294967296 := by omega
  have b4 : n / 4294967296 < 4294967296 := by omega
  have p1 := Go.Lib.half_mul_le (a := m / 4294967296) (b := n / 4294967296) (by omega) (by omega)
  have p2 := Go.Lib.half_mul_le (a := m / 4294967296) (b := n % 4294967296) (by omega) (by omega)
  have p3 := Go.Lib.half_mul_le (a := m % 4294967296) (b := n / 4294967296) (by omega) (by omega)
  have p5 : m * n / 18446744073709551616 < 18446744073709551616 := by
    have := Nat.mul_lt_mul'' hx hy
    omega
  rw [← h4] at p5
  simp only [shr32, and32 _ hx, and32 _ hy]
  simp only [mulc]
  rw [wrapu (m % 4294967296 * (n % 4294967296)) h1, shr32, wrapu (m / 4294967296 * (n % 4294967296)) (by omega), addc, wrapu _ h2, shr32, and32 _ h2, wrapu (m % 4294967296 * (n / 4294967296)) (by omega), addc, wrapu _ h3, shr32, wrapu (m / 4294967296 * (n / 4294967296)) (by omega), addc, wrapu _ (by omega), addc, wrapu _ (by omega)]
  have e2 : IntKind.u64.wrap ((m * n : Nat) : Int) = lo64 m n := by
    unfold lo64
    rw [IntKind.wrap_u64]
    omega
  rw [h4, e2, show ((m * n / 18446744073709551616 : Nat) : Int) = hi64 m n from rfl]
  exact Fin.nil rfl (psv := .tup [.i .u64 (hi64 m n), .i .u64 (lo64 m n)]) (by simp (maxSteps := 4000000) only [push_cast, Int.reduceEq, Int.reduceBNe, Int.reduceBEq, Int.reduceAdd, Int.reduceSub, Int.reduceMul, Int.reduceNeg, Int.reduceLT, Int.reduceLE, Int.reduceToNat, Nat.reduceLT, Nat.reduceAdd, Nat.reduceSub, Nat.reduceMul, Nat.reduceEqDiff, Nat.reduceLeDiff, Nat.reduceBEq, reduceIte, reduceCtorEq]) ⟨rfl, rfl⟩

/-- How many bytes some elements are. -/
def bytesV (size count : Int) : Int × Int := if size < 0 ∨ count < 0 ∨ 1048576 < size * count then (0, 4) else (size * count, 0)
theorem bytes_c (size count : Int) (hs : size ≤ 9223372036854775807) (hc : count ≤ 9223372036854775807) : Contract Try.prog 66 nilSS [.i .i64 size, .i .i64 count] (fun sv post => sv = .tup [.i .i64 (bytesV size count).1, .i .i64 (bytesV size count).2] ∧ post = nilSS) := by
  refine contract_ev Γok Try.func66 rfl rfl [] ?_
  simp (maxSteps := 4000000) only [push_cast, Int.reduceEq, Int.reduceBNe, Int.reduceBEq, Int.reduceAdd, Int.reduceSub, Int.reduceMul, Int.reduceNeg, Int.reduceLT, Int.reduceLE, Int.reduceToNat, Nat.reduceLT, Nat.reduceAdd, Nat.reduceSub, Nat.reduceMul, Nat.reduceEqDiff, Nat.reduceLeDiff, Nat.reduceBEq, reduceIte, reduceCtorEq, Try.f66]
  refine ⟨fun h => ?_, fun h => ?_⟩
  · have e : bytesV size count = (0, 4) := if_pos (by omega)
    rw [e]
    exact Fin.nil rfl (psv := .tup [.i .i64 0, .i .i64 4]) (by simp (maxSteps := 4000000) only [push_cast, Int.reduceEq, Int.reduceBNe, Int.reduceBEq, Int.reduceAdd, Int.reduceSub, Int.reduceMul, Int.reduceNeg, Int.reduceLT, Int.reduceLE, Int.reduceToNat, Nat.reduceLT, Nat.reduceAdd, Nat.reduceSub, Nat.reduceMul, Nat.reduceEqDiff, Nat.reduceLeDiff, Nat.reduceBEq, reduceIte, reduceCtorEq]) ⟨rfl, rfl⟩
  obtain ⟨m, rfl⟩ : ∃ m : Nat, size = m := ⟨size.toNat, by omega⟩
  obtain ⟨n, rfl⟩ : ∃ n : Nat, count = n := ⟨count.toNat, by omega⟩
  rw [wrapu m (by omega), wrapu n (by omega)]
  refine call_w (mul64_c m n m n rfl rfl (by omega) (by omega)) [] (by simp (maxSteps := 4000000) only [push_cast, Int.reduceEq, Int.reduceBNe, Int.reduceBEq, Int.reduceAdd, Int.reduceSub, Int.reduceMul, Int.reduceNeg, Int.reduceLT, Int.reduceLE, Int.reduceToNat, Nat.reduceLT, Nat.reduceAdd, Nat.reduceSub, Nat.reduceMul, Nat.reduceEqDiff, Nat.reduceLeDiff, Nat.reduceBEq, reduceIte, reduceCtorEq]) ?_
  rintro sv post ⟨rfl, rfl⟩
  simp (maxSteps := 4000000) only [push_cast, Int.reduceEq, Int.reduceBNe, Int.reduceBEq, Int.reduceAdd, Int.reduceSub, Int.reduceMul, Int.reduceNeg, Int.reduceLT, Int.reduceLE, Int.reduceToNat, Nat.reduceLT, Nat.reduceAdd, Nat.reduceSub, Nat.reduceMul, Nat.reduceEqDiff, Nat.reduceLeDiff, Nat.reduceBEq, reduceIte, reduceCtorEq]
  have hm : (m : Int) * (n : Int) = ((m * n : Nat) : Int) := mulc m n
  have hlt : m * n < 9223372036854775808 * 9223372036854775808 := Nat.mul_lt_mul'' (by omega) (by omega)
  unfold bytesV
  rw [hm]
  generalize hq : m * n = q at *
  have eh : hi64 m n = ((q / 18446744073709551616 : Nat) : Int) := by unfold hi64; rw [hq]
  have el : lo64 m n = ((q % 18446744073709551616 : Nat) : Int) := by unfold lo64; rw [hq]
  rw [eh, el]
  refine ⟨fun h1 => ?_, fun h1 => ?_⟩
  · rw [if_pos (by omega)]
    exact Fin.nil rfl (psv := .tup [.i .i64 0, .i .i64 4]) (by simp (maxSteps := 4000000) only [push_cast, Int.reduceEq, Int.reduceBNe, Int.reduceBEq, Int.reduceAdd, Int.reduceSub, Int.reduceMul, Int.reduceNeg, Int.reduceLT, Int.reduceLE, Int.reduceToNat, Nat.reduceLT, Nat.reduceAdd, Nat.reduceSub, Nat.reduceMul, Nat.reduceEqDiff, Nat.reduceLeDiff, Nat.reduceBEq, reduceIte, reduceCtorEq]) ⟨rfl, rfl⟩
  · rw [if_neg (by omega), wrap64 (by omega) (by omega), show ((q % 18446744073709551616 : Nat) : Int) = q by omega]
    exact Fin.nil rfl (psv := .tup [.i .i64 q, .i .i64 0]) (by simp (maxSteps := 4000000) only [push_cast, Int.reduceEq, Int.reduceBNe, Int.reduceBEq, Int.reduceAdd, Int.reduceSub, Int.reduceMul, Int.reduceNeg, Int.reduceLT, Int.reduceLE, Int.reduceToNat, Nat.reduceLT, Nat.reduceAdd, Nat.reduceSub, Nat.reduceMul, Nat.reduceEqDiff, Nat.reduceLeDiff, Nat.reduceBEq, reduceIte, reduceCtorEq]) ⟨rfl, rfl⟩

/-- What is asked first: how many bytes, and what is wrong. -/
def St.asks (x : St) (size count : Int) : Int × Int := if x.May then (if x.cl = true then (0, 113) else bytesV size count) else (0, 51)
def isAB (x : St) (r : Int × Int) (sv : SV) (post : SS) : Prop := sv = .tup [x.sv .new, .i .i64 r.1, .i .i64 r.2] ∧ post = nilSS

set_option maxHeartbeats 2000000 in
theorem askedB_c (x : St) (hx : x.fits) (t : TypeId) (y : Value) (size count : Int) (hs : size ≤ 9223372036854775807) (hc : count ≤ 9223372036854775807) : Contract Try.prog 67 nilSS [x.sv .old, .ifc t (.raw y), .i .i64 size, .i .i64 count] (isAB x (x.asks size count)) := by
  have hx' := hx
  obtain ⟨ho, hi, hk⟩ := hx'
  refine contract_ev Γok Try.func67 rfl rfl [] ?_
  simp (maxSteps := 4000000) only [push_cast, Int.reduceEq, Int.reduceBNe, Int.reduceBEq, Int.reduceAdd, Int.reduceSub, Int.reduceMul, Int.reduceNeg, Int.reduceLT, Int.reduceLE, Int.reduceToNat, Nat.reduceLT, Nat.reduceAdd, Nat.reduceSub, Nat.reduceMul, Nat.reduceEqDiff, Nat.reduceLeDiff, Nat.reduceBEq, reduceIte, reduceCtorEq, Try.f67, rg11, St.sv, St.cells]
  refine (region_plan rfl Γok mixed (.pure 0 (.pure 1 (.pure 3 (.pure 4 (.pure 6 (.pure 7 (.eff (.cons 2 [4, 7] (.pure 9 (.eff (.cons 5 [7] (.eff (.cons 8 [] (.eff (.cons 10 [] (.pure 11 (.eff (.cons 12 [] (.pure 13 (.eff (.cons 14 [] .done .nil))) .nil))) .nil)) .nil)) .nil))) .nil)))))))) 51 rfl (by kernel_rfl) ?_)
  simp (maxSteps := 4000000) only [push_cast, Int.reduceEq, Int.reduceBNe, Int.reduceBEq, Int.reduceAdd, Int.reduceSub, Int.reduceMul, Int.reduceNeg, Int.reduceLT, Int.reduceLE, Int.reduceToNat, Nat.reduceLT, Nat.reduceAdd, Nat.reduceSub, Nat.reduceMul, Nat.reduceEqDiff, Nat.reduceLeDiff, Nat.reduceBEq, reduceIte, reduceCtorEq]
  refine call_w (sclone_c x.o ho) [] (by simp (maxSteps := 4000000) only [push_cast, Int.reduceEq, Int.reduceBNe, Int.reduceBEq, Int.reduceAdd, Int.reduceSub, Int.reduceMul, Int.reduceNeg, Int.reduceLT, Int.reduceLE, Int.reduceToNat, Nat.reduceLT, Nat.reduceAdd, Nat.reduceSub, Nat.reduceMul, Nat.reduceEqDiff, Nat.reduceLeDiff, Nat.reduceBEq, reduceIte, reduceCtorEq]) ?_
  rintro sv post ⟨rfl, rfl⟩
  simp (maxSteps := 4000000) only [push_cast, Int.reduceEq, Int.reduceBNe, Int.reduceBEq, Int.reduceAdd, Int.reduceSub, Int.reduceMul, Int.reduceNeg, Int.reduceLT, Int.reduceLE, Int.reduceToNat, Nat.reduceLT, Nat.reduceAdd, Nat.reduceSub, Nat.reduceMul, Nat.reduceEqDiff, Nat.reduceLeDiff, Nat.reduceBEq, reduceIte, reduceCtorEq]
  refine call_w (sclone_c x.i hi) [] (by simp (maxSteps := 4000000) only [push_cast, Int.reduceEq, Int.reduceBNe, Int.reduceBEq, Int.reduceAdd, Int.reduceSub, Int.reduceMul, Int.reduceNeg, Int.reduceLT, Int.reduceLE, Int.reduceToNat, Nat.reduceLT, Nat.reduceAdd, Nat.reduceSub, Nat.reduceMul, Nat.reduceEqDiff, Nat.reduceLeDiff, Nat.reduceBEq, reduceIte, reduceCtorEq]) ?_
  rintro sv post ⟨rfl, rfl⟩
  simp (maxSteps := 4000000) only [push_cast, Int.reduceEq, Int.reduceBNe, Int.reduceBEq, Int.reduceAdd, Int.reduceSub, Int.reduceMul, Int.reduceNeg, Int.reduceLT, Int.reduceLE, Int.reduceToNat, Nat.reduceLT, Nat.reduceAdd, Nat.reduceSub, Nat.reduceMul, Nat.reduceEqDiff, Nat.reduceLeDiff, Nat.reduceBEq, reduceIte, reduceCtorEq]
  refine call_w (sclone_c x.k hk) [] (by simp (maxSteps := 4000000) only [push_cast, Int.reduceEq, Int.reduceBNe, Int.reduceBEq, Int.reduceAdd, Int.reduceSub, Int.reduceMul, Int.reduceNeg, Int.reduceLT, Int.reduceLE, Int.reduceToNat, Nat.reduceLT, Nat.reduceAdd, Nat.reduceSub, Nat.reduceMul, Nat.reduceEqDiff, Nat.reduceLeDiff, Nat.reduceBEq, reduceIte, reduceCtorEq]) ?_
  rintro sv post ⟨rfl, rfl⟩
  simp (maxSteps := 4000000) only [push_cast, Int.reduceEq, Int.reduceBNe, Int.reduceBEq, Int.reduceAdd, Int.reduceSub, Int.reduceMul, Int.reduceNeg, Int.reduceLT, Int.reduceLE, Int.reduceToNat, Nat.reduceLT, Nat.reduceAdd, Nat.reduceSub, Nat.reduceMul, Nat.reduceEqDiff, Nat.reduceLeDiff, Nat.reduceBEq, reduceIte, reduceCtorEq, rg11]
  refine call_w (checkR_c x hx) [] (by simp (maxSteps := 4000000) only [push_cast, Int.reduceEq, Int.reduceBNe, Int.reduceBEq, Int.reduceAdd, Int.reduceSub, Int.reduceMul, Int.reduceNeg, Int.reduceLT, Int.reduceLE, Int.reduceToNat, Nat.reduceLT, Nat.reduceAdd, Nat.reduceSub, Nat.reduceMul, Nat.reduceEqDiff, Nat.reduceLeDiff, Nat.reduceBEq, reduceIte, reduceCtorEq, St.sv, St.cells]) ?_
  rintro sv post ⟨rfl, rfl⟩
  simp (maxSteps := 4000000) only [push_cast, Int.reduceEq, Int.reduceBNe, Int.reduceBEq, Int.reduceAdd, Int.reduceSub, Int.reduceMul, Int.reduceNeg, Int.reduceLT, Int.reduceLE, Int.reduceToNat, Nat.reduceLT, Nat.reduceAdd, Nat.reduceSub, Nat.reduceMul, Nat.reduceEqDiff, Nat.reduceLeDiff, Nat.reduceBEq, reduceIte, reduceCtorEq, rg11]
  unfold St.asks
  refine ⟨fun h => ?_, fun h => ?_⟩
  · have hm : ¬ x.May := fun hm => h (by rw [if_pos hm])
    rw [if_neg hm, if_neg hm]
    exact Fin.nil rfl (psv := .tup [x.sv .new, .i .i64 0, .i .i64 51]) (by simp (maxSteps := 4000000) only [push_cast, Int.reduceEq, Int.reduceBNe, Int.reduceBEq, Int.reduceAdd, Int.reduceSub, Int.reduceMul, Int.reduceNeg, Int.reduceLT, Int.reduceLE, Int.reduceToNat, Nat.reduceLT, Nat.reduceAdd, Nat.reduceSub, Nat.reduceMul, Nat.reduceEqDiff, Nat.reduceLeDiff, Nat.reduceBEq, reduceIte, reduceCtorEq, St.sv, St.cells]) ⟨rfl, rfl⟩
  · have hm : x.May := by
      by_cases hm : x.May
      · exact hm
      · rw [if_neg hm] at h; omega
    simp only [if_pos hm]
    refine ⟨fun h1 => ?_, fun h1 => ?_⟩
    · rw [if_pos h1]
      exact Fin.nil rfl (psv := .tup [x.sv .new, .i .i64 0, .i .i64 113]) (by simp (maxSteps := 4000000) only [push_cast, Int.reduceEq, Int.reduceBNe, Int.reduceBEq, Int.reduceAdd, Int.reduceSub, Int.reduceMul, Int.reduceNeg, Int.reduceLT, Int.reduceLE, Int.reduceToNat, Nat.reduceLT, Nat.reduceAdd, Nat.reduceSub, Nat.reduceMul, Nat.reduceEqDiff, Nat.reduceLeDiff, Nat.reduceBEq, reduceIte, reduceCtorEq, St.sv, St.cells]) ⟨rfl, rfl⟩
    · rw [if_neg (by simp [h1])]
      refine call_w (bytes_c size count hs hc) [] (by simp (maxSteps := 4000000) only [push_cast, Int.reduceEq, Int.reduceBNe, Int.reduceBEq, Int.reduceAdd, Int.reduceSub, Int.reduceMul, Int.reduceNeg, Int.reduceLT, Int.reduceLE, Int.reduceToNat, Nat.reduceLT, Nat.reduceAdd, Nat.reduceSub, Nat.reduceMul, Nat.reduceEqDiff, Nat.reduceLeDiff, Nat.reduceBEq, reduceIte, reduceCtorEq]) ?_
      rintro sv post ⟨rfl, rfl⟩
      simp (maxSteps := 4000000) only [push_cast, Int.reduceEq, Int.reduceBNe, Int.reduceBEq, Int.reduceAdd, Int.reduceSub, Int.reduceMul, Int.reduceNeg, Int.reduceLT, Int.reduceLE, Int.reduceToNat, Nat.reduceLT, Nat.reduceAdd, Nat.reduceSub, Nat.reduceMul, Nat.reduceEqDiff, Nat.reduceLeDiff, Nat.reduceBEq, reduceIte, reduceCtorEq, rg11]
      exact Fin.nil rfl (psv := .tup [x.sv .new, .i .i64 (bytesV size count).1, .i .i64 (bytesV size count).2]) (by simp (maxSteps := 4000000) only [push_cast, Int.reduceEq, Int.reduceBNe, Int.reduceBEq, Int.reduceAdd, Int.reduceSub, Int.reduceMul, Int.reduceNeg, Int.reduceLT, Int.reduceLE, Int.reduceToNat, Nat.reduceLT, Nat.reduceAdd, Nat.reduceSub, Nat.reduceMul, Nat.reduceEqDiff, Nat.reduceLeDiff, Nat.reduceBEq, reduceIte, reduceCtorEq, St.sv, St.cells]) ⟨rfl, rfl⟩
end Go.Proofs.Ytbhkpefjnomncaa
/- Blocks: elements in. -/
namespace Go.Proofs.Ytbhkpefjnomncaa
open Go Go.Eng
set_option maxHeartbeats 4000000
set_option linter.unusedSimpArgs false
set_option linter.unusedVariables false
set_option maxRecDepth 100000

/-- So many bytes, till one is not got. -/
def readGo (M : RawM) : Nat → St → M.σ → List Int → St × M.σ × List Int × Int
  | 0, x, g, out => (x, g, out, 0)
  | f + 1, x, g, out =>
    if (x.Get M g).2.2.2 ≠ 0 then ((x.Get M g).1, (x.Get M g).2.1, out, (x.Get M g).2.2.2)
    else readGo M f (x.Get M g).1 (x.Get M g).2.1 (out ++ [(x.Get M g).2.2.1])
def St.Read (M : RawM) (x : St) (g : M.σ) (size count : Int) : St × M.σ × List Int × Int × Int :=
  if (x.asks size count).2 ≠ 0 ∨ (x.asks size count).1 = 0 then (x, g, [], 0, (x.asks size count).2)
  else ((readGo M (x.asks size count).1.toNat x g []).1, (readGo M (x.asks size count).1.toNat x g []).2.1, (readGo M (x.asks size count).1.toNat x g []).2.2.1, ((readGo M (x.asks size count).1.toNat x g []).2.2.1.length : Int).tdiv size, (readGo M (x.asks size count).1.toNat x g []).2.2.2)
def isRB (M : RawM) (r : St × M.σ × List Int × Int × Int) (sv : SV) (post : SS) : Prop := sv = .tup [r.1.sv .new, .ints .u8 .new r.2.2.1, .i .i64 r.2.2.2.1, .i .i64 r.2.2.2.2] ∧ post = preR (M.res r.2.1)

theorem asks_rng {x : St} {size count : Int} (h : (x.asks size count).2 = 0) : x.May ∧ x.cl = false ∧ 0 ≤ size ∧ 0 ≤ count ∧ size * count ≤ 1048576 ∧ (x.asks size count).1 = size * count := by
  unfold St.asks bytesV at *
  by_cases hm : x.May
  · simp only [if_pos hm] at h ⊢
    cases hc : x.cl <;> simp only [hc, if_true, Bool.false_eq_true, if_false] at h ⊢
    · by_cases hq : size < 0 ∨ count < 0 ∨ 1048576 < size * count
      · rw [if_pos hq] at h; simp at h
      · rw [if_neg hq]; exact ⟨hm, trivial, by omega, by omega, by omega, rfl⟩
    · simp at h
  · rw [if_neg hm] at h; simp at h

theorem quo64 (n : Nat) (s : Int) (h : (n : Int) ≤ 9223372036854775807) (hs : 0 ≤ s) : IntKind.i64.wrap ((n : Int).tdiv s) = (n : Int).tdiv s := by
  have h1 : 0 ≤ (n : Int).tdiv s := Int.tdiv_nonneg (by omega) hs
  have h2 : (n : Int).tdiv s ≤ n := by
    rw [Int.tdiv_eq_ediv_of_nonneg (by omega)]
    exact Int.ediv_le_self s (by omega)
  exact wrap64 (by omega) (by omega)

set_option maxHeartbeats 2000000 in
theorem ReadB_c (M : RawM) (hR : M.Rd) (x : St) (hx : x.fits) (g : M.σ) (hg : M.ok g) (size count : Int) (hs : size ≤ 9223372036854775807) (hc : count ≤ 9223372036854775807) : Contract Try.prog 44 (preR (M.res g))
    [x.sv .old, M.v, .i .i64 size, .i .i64 count] (isRB M (x.Read M g size count)) := by
  refine contract_ev Γok Try.func44 rfl rfl [] ?_
  simp (maxSteps := 4000000) only [push_cast, Int.reduceEq, Int.reduceBNe, Int.reduceBEq, Int.reduceAdd, Int.reduceSub, Int.reduceMul, Int.reduceNeg, Int.reduceLT, Int.reduceLE, Int.reduceToNat, Nat.reduceLT, Nat.reduceAdd, Nat.reduceSub, Nat.reduceMul, Nat.reduceEqDiff, Nat.reduceLeDiff, Nat.reduceBEq, reduceIte, reduceCtorEq, Try.f44, St.sv, St.cells, RawM.v, rg11]
  refine call_w (askedB_c x hx M.t M.y size count hs hc) [] (by simp (maxSteps := 4000000) only [push_cast, Int.reduceEq, Int.reduceBNe, Int.reduceBEq, Int.reduceAdd, Int.reduceSub, Int.reduceMul, Int.reduceNeg, Int.reduceLT, Int.reduceLE, Int.reduceToNat, Nat.reduceLT, Nat.reduceAdd, Nat.reduceSub, Nat.reduceMul, Nat.reduceEqDiff, Nat.reduceLeDiff, Nat.reduceBEq, reduceIte, reduceCtorEq, St.sv, St.cells]) ?_
  rintro sv post ⟨rfl, rfl⟩
  simp (maxSteps := 4000000) only [push_cast, Int.reduceEq, Int.reduceBNe, Int.reduceBEq, Int.reduceAdd, Int.reduceSub, Int.reduceMul, Int.reduceNeg, Int.reduceLT, Int.reduceLE, Int.reduceToNat, Nat.reduceLT, Nat.reduceAdd, Nat.reduceSub, Nat.reduceMul, Nat.reduceEqDiff, Nat.reduceLeDiff, Nat.reduceBEq, reduceIte, reduceCtorEq, St.sv, St.cells, rg11]
  refine ⟨fun h => ?_, fun h => ?_⟩
  · have e : x.Read M g size count = (x, g, [], 0, (x.asks size count).2) := if_pos h
    rw [e]
    exact Fin.w [0] (.tup [x.sv .new, .ints .u8 .new [], .i .i64 0, .i .i64 (x.asks size count).2]) _ (by simp (maxSteps := 4000000) only [push_cast, Int.reduceEq, Int.reduceBNe, Int.reduceBEq, Int.reduceAdd, Int.reduceSub, Int.reduceMul, Int.reduceNeg, Int.reduceLT, Int.reduceLE, Int.reduceToNat, Nat.reduceLT, Nat.reduceAdd, Nat.reduceSub, Nat.reduceMul, Nat.reduceEqDiff, Nat.reduceLeDiff, Nat.reduceBEq, reduceIte, reduceCtorEq, St.sv, St.cells]) ⟨rfl, rfl⟩
  · have e : x.Read M g size count = ((readGo M (x.asks size count).1.toNat x g []).1, (readGo M (x.asks size count).1.toNat x g []).2.1, (readGo M (x.asks size count).1.toNat x g []).2.2.1, ((readGo M (x.asks size count).1.toNat x g []).2.2.1.length : Int).tdiv size, (readGo M (x.asks size count).1.toNat x g []).2.2.2) := if_neg (by omega)
    obtain ⟨hm, hcl, hs0, hc0, hn, hq⟩ := asks_rng h.1
    obtain ⟨n, hnn⟩ : ∃ n : Nat, (x.asks size count).1 = n := ⟨(x.asks size count).1.toNat, by have := Int.mul_nonneg hs0 hc0; omega⟩
    have hs1 : size ≠ 0 := by rintro rfl; rw [hq] at h; simp at h
    rw [e]
    have hk := h.1
    rw [hk]
    rw [hnn] at h hq ⊢
    simp only [Int.toNat_natCast]
    generalize hr : readGo M n x g [] = r
    refine CodeOK.sub (Sub.tokFr 15 rfl) ?_
    simp (maxSteps := 4000000) only [push_cast, Int.reduceEq, Int.reduceBNe, Int.reduceBEq, Int.reduceAdd, Int.reduceSub, Int.reduceMul, Int.reduceNeg, Int.reduceLT, Int.reduceLE, Int.reduceToNat, Nat.reduceLT, Nat.reduceAdd, Nat.reduceSub, Nat.reduceMul, Nat.reduceEqDiff, Nat.reduceLeDiff, Nat.reduceBEq, reduceIte, reduceCtorEq]
    refine loop_ok (ι := {q : Nat × St × M.σ × List Int // q.2.1.fits ∧ M.ok q.2.2.1 ∧ q.2.2.2.length + q.1 = n ∧ readGo M q.1 q.2.1 q.2.2.1 q.2.2.2 = r})
      (fun q => ⟨[.any, M.v, .i .i64 size, .any, .any, .any, .any, .any, .ptr 2 0, .any, .any, .any, .ptr 3 0, .any, .i .i64 0, .ints .u8 (.tok 4 true) q.1.2.2.2] ++ List.replicate 18 .any ++ [.i .i64 n, .i .i64 q.1.2.2.2.length] ++ List.replicate 22 .any, [(3, 26, q.1.2.1.cells .new .new .new), (2, 26, List.replicate 11 .any)], [4], [(0, M.res q.1.2.2.1)], 5, 1, []⟩)
      (fun q => q.1.1) ⟨(n, x, g, []), hx, hg, by simp, hr⟩ ?_ ?_
    · refine Sub.w [0, 1, 2, 3, 4] ?_
      simp (maxSteps := 4000000) only [push_cast, Int.reduceEq, Int.reduceBNe, Int.reduceBEq, Int.reduceAdd, Int.reduceSub, Int.reduceMul, Int.reduceNeg, Int.reduceLT, Int.reduceLE, Int.reduceToNat, Nat.reduceLT, Nat.reduceAdd, Nat.reduceSub, Nat.reduceMul, Nat.reduceEqDiff, Nat.reduceLeDiff, Nat.reduceBEq, reduceIte, reduceCtorEq, RawM.v, St.cells]
    · rintro ⟨⟨f, x', g', out⟩, hx', hg', hl, he⟩
      simp only at hx' hg' hl he
      have hkeep := Get_ok M hR x' g' hg'
      have hfit := Get_fits M x' g' hx'
      refine evCode_sound Γok _ _ _ ?_
      simp (maxSteps := 4000000) only [push_cast, Int.reduceEq, Int.reduceBNe, Int.reduceBEq, Int.reduceAdd, Int.reduceSub, Int.reduceMul, Int.reduceNeg, Int.reduceLT, Int.reduceLE, Int.reduceToNat, Nat.reduceLT, Nat.reduceAdd, Nat.reduceSub, Nat.reduceMul, Nat.reduceEqDiff, Nat.reduceLeDiff, Nat.reduceBEq, reduceIte, reduceCtorEq, RawM.v, St.cells, rg11]
      refine ⟨fun h1 => ?_, fun h1 => ?_⟩
      · obtain ⟨f, rfl⟩ : ∃ f', f = f' + 1 := ⟨f - 1, by omega⟩
        simp only [readGo] at he
        refine call_w (GetR_c M hR x' g' hg' hx') [0] (by simp (maxSteps := 4000000) only [push_cast, Int.reduceEq, Int.reduceBNe, Int.reduceBEq, Int.reduceAdd, Int.reduceSub, Int.reduceMul, Int.reduceNeg, Int.reduceLT, Int.reduceLE, Int.reduceToNat, Nat.reduceLT, Nat.reduceAdd, Nat.reduceSub, Nat.reduceMul, Nat.reduceEqDiff, Nat.reduceLeDiff, Nat.reduceBEq, reduceIte, reduceCtorEq, St.sv, St.cells, RawM.v]) ?_
        rintro sv post ⟨rfl, rfl⟩
        simp (maxSteps := 4000000) only [push_cast, Int.reduceEq, Int.reduceBNe, Int.reduceBEq, Int.reduceAdd, Int.reduceSub, Int.reduceMul, Int.reduceNeg, Int.reduceLT, Int.reduceLE, Int.reduceToNat, Nat.reduceLT, Nat.reduceAdd, Nat.reduceSub, Nat.reduceMul, Nat.reduceEqDiff, Nat.reduceLeDiff, Nat.reduceBEq, reduceIte, reduceCtorEq, St.sv, St.cells, rg11]
        refine ⟨fun h2 => ?_, fun h2 => ?_⟩
        · rw [if_pos h2] at he
          rw [← he]
          refine (region_plan rfl Γok mixed (.pure 0 (.pure 1 (.pure 2 (.pure 3 (.pure 4 (.pure 5 (.pure 6 (.eff (.cons 7 [] (.pure 8 (.pure 9 (.pure 10 .done))) .nil))))))))) 58 rfl (by kernel_rfl) ?_)
          simp (maxSteps := 4000000) only [push_cast, Int.reduceEq, Int.reduceBNe, Int.reduceBEq, Int.reduceAdd, Int.reduceSub, Int.reduceMul, Int.reduceNeg, Int.reduceLT, Int.reduceLE, Int.reduceToNat, Nat.reduceLT, Nat.reduceAdd, Nat.reduceSub, Nat.reduceMul, Nat.reduceEqDiff, Nat.reduceLeDiff, Nat.reduceBEq, reduceIte, reduceCtorEq, rg11]
          rw [quo64 out.length size (by omega) hs0]
          exact ⟨hs1, Fin.w [0] (.tup [(x'.Get M g').1.sv .new, .ints .u8 .new out, .i .i64 _, .i .i64 _]) _ (by simp (maxSteps := 4000000) only [push_cast, Int.reduceEq, Int.reduceBNe, Int.reduceBEq, Int.reduceAdd, Int.reduceSub, Int.reduceMul, Int.reduceNeg, Int.reduceLT, Int.reduceLE, Int.reduceToNat, Nat.reduceLT, Nat.reduceAdd, Nat.reduceSub, Nat.reduceMul, Nat.reduceEqDiff, Nat.reduceLeDiff, Nat.reduceBEq, reduceIte, reduceCtorEq, St.sv, St.cells]) ⟨rfl, rfl⟩⟩
        · rw [if_neg (by omega)] at he
          refine ⟨by omega, ⟨(f, (x'.Get M g').1, (x'.Get M g').2.1, out ++ [(x'.Get M g').2.2.1]), hfit, hkeep, by simp; omega, he⟩, by simp only; omega, Sub.w [0, 1, 2, 3, 6] ?_⟩
          simp (maxSteps := 4000000) only [push_cast, Int.reduceEq, Int.reduceBNe, Int.reduceBEq, Int.reduceAdd, Int.reduceSub, Int.reduceMul, Int.reduceNeg, Int.reduceLT, Int.reduceLE, Int.reduceToNat, Nat.reduceLT, Nat.reduceAdd, Nat.reduceSub, Nat.reduceMul, Nat.reduceEqDiff, Nat.reduceLeDiff, Nat.reduceBEq, reduceIte, reduceCtorEq, RawM.v, St.cells]
          exact ⟨by omega, by rw [wrap64 (by omega) (by omega)]; simp⟩
      · obtain rfl : f = 0 := by omega
        simp only [readGo] at he
        rw [← he]
        refine (region_plan rfl Γok mixed (.pure 0 (.pure 1 (.pure 2 (.pure 3 (.pure 4 (.pure 5 (.pure 6 (.eff (.cons 7 [] (.pure 8 (.pure 9 (.pure 10 .done))) .nil))))))))) 58 rfl (by kernel_rfl) ?_)
        simp (maxSteps := 4000000) only [push_cast, Int.reduceEq, Int.reduceBNe, Int.reduceBEq, Int.reduceAdd, Int.reduceSub, Int.reduceMul, Int.reduceNeg, Int.reduceLT, Int.reduceLE, Int.reduceToNat, Nat.reduceLT, Nat.reduceAdd, Nat.reduceSub, Nat.reduceMul, Nat.reduceEqDiff, Nat.reduceLeDiff, Nat.reduceBEq, reduceIte, reduceCtorEq, rg11]
        rw [quo64 out.length size (by omega) hs0]
        exact ⟨hs1, Fin.w [0] (.tup [x'.sv .new, .ints .u8 .new out, .i .i64 _, .i .i64 _]) _ (by simp (maxSteps := 4000000) only [push_cast, Int.reduceEq, Int.reduceBNe, Int.reduceBEq, Int.reduceAdd, Int.reduceSub, Int.reduceMul, Int.reduceNeg, Int.reduceLT, Int.reduceLE, Int.reduceToNat, Nat.reduceLT, Nat.reduceAdd, Nat.reduceSub, Nat.reduceMul, Nat.reduceEqDiff, Nat.reduceLeDiff, Nat.reduceBEq, reduceIte, reduceCtorEq, St.sv, St.cells]) ⟨rfl, rfl⟩⟩
end Go.Proofs.Ytbhkpefjnomncaa
/- Blocks: what the laws on reading need (texts Mc, Md where the seat has their functions). -/
namespace Go.Proofs.Ytbhkpefjnomncaa
open Go Go.Eng
set_option maxHeartbeats 4000000
set_option linter.unusedSimpArgs false
set_option linter.unusedVariables false
set_option maxRecDepth 100000

theorem num16_c (m : Int) : Contract Try.prog 42 nilSS [.i .i64 m] (fun sv post => sv = .i .i64 m ∧ post = nilSS) := by
  refine contract_ev Γok Try.func42 rfl rfl [] ?_
  simp (maxSteps := 4000000) only [push_cast, Int.reduceEq, Int.reduceBNe, Int.reduceBEq, Int.reduceAdd, Int.reduceSub, Int.reduceMul, Int.reduceNeg, Int.reduceLT, Int.reduceLE, Int.reduceToNat, Nat.reduceLT, Nat.reduceAdd, Nat.reduceSub, Nat.reduceMul, Nat.reduceEqDiff, Nat.reduceLeDiff, Nat.reduceBEq, reduceIte, reduceCtorEq, Try.f42]
  exact Fin.nil rfl (psv := .i .i64 _) ⟨rfl, rfl⟩ ⟨rfl, rfl⟩

theorem readGo_feeds {M : RawM} (hR : M.Rd) {rest : M.σ → List Int} (hF : Feeds M rest) : ∀ (f : Nat) (x : St) (g : M.σ) (out : List Int), Reads M rest x g →
    (readGo M f x g out).2.2.1 = out ++ (left M rest x g).take f ∧ (readGo M f x g out).2.2.2 = (if f ≤ (left M rest x g).length then 0 else 111)
  | 0, x, g, out, h => by simp [readGo]
  | f + 1, x, g, out, h => by
    obtain ⟨k1, k2⟩ := get_feeds hR hF h
    unfold readGo
    cases hl : left M rest x g with
    | nil =>
      rw [hl] at k2
      simp only at k2
      rw [k2.1]
      simp
    | cons c l =>
      rw [hl] at k2
      simp only at k2
      rw [k2.1]
      obtain ⟨e1, e2⟩ := readGo_feeds hR hF f _ _ (out ++ [c]) k1
      rw [k2.2.1] at e1 e2
      simp only [ne_eq, not_true_eq_false, if_false]
      rw [e1, e2]
      simp

theorem rd16a (b : Nat) : (newSt true false 3 4).Read (readerM [104, 101, 108, 108, 111] b) (0 : Int) 2 3 = (exSt [] true, (5 : Int), [104, 101, 108, 108, 111], 2, 111) := by kernel_rfl

set_option maxHeartbeats 2000000 in
theorem alive16_c : Contract Try.prog 41 nilSS [] (fun sv post => sv = .b true ∧ post = nilSS) := by
  have e0 : newSt true false 3 4 = ⟨true, false, 3, 4, [], [], [], 0, false, false, false⟩ := rfl
  have hR := fun b => readerM_rd [104, 101, 108, 108, 111] b (by simp)
  have hv : ∀ b, (readerM [104, 101, 108, 108, 111] b).v = .ifc 69 (.raw (.pointer (some ⟨b, 0, none⟩))) := fun b => rfl
  have hr : ∀ b (p : Int), (readerM [104, 101, 108, 108, 111] b).res p = (readerS [104, 101, 108, 108, 111] p).res b := fun b p => rfl
  have q1 : strOf [104, 101, 108, 108, 111] = ⟨#[104, 101, 108, 108, 111]⟩ := rfl
  have may0 : mayV 3 4 = 0 := rfl
  have bv : bytesV 1099511627776 1099511627776 = (0, 4) := by decide
  refine contract_ev Γok Try.func41 rfl rfl [] ?_
  simp (maxSteps := 4000000) only [push_cast, Int.reduceEq, Int.reduceBNe, Int.reduceBEq, Int.reduceAdd, Int.reduceSub, Int.reduceMul, Int.reduceNeg, Int.reduceLT, Int.reduceLE, Int.reduceToNat, Nat.reduceLT, Nat.reduceAdd, Nat.reduceSub, Nat.reduceMul, Nat.reduceEqDiff, Nat.reduceLeDiff, Nat.reduceBEq, reduceIte, reduceCtorEq, Try.f41]
  refine call_w (newReader_c [104, 101, 108, 108, 111] (by simp)) [] (by simp (maxSteps := 4000000) only [push_cast, Int.reduceEq, Int.reduceBNe, Int.reduceBEq, Int.reduceAdd, Int.reduceSub, Int.reduceMul, Int.reduceNeg, Int.reduceLT, Int.reduceLE, Int.reduceToNat, Nat.reduceLT, Nat.reduceAdd, Nat.reduceSub, Nat.reduceMul, Nat.reduceEqDiff, Nat.reduceLeDiff, Nat.reduceBEq, reduceIte, reduceCtorEq]) ?_
  rintro sv post ⟨b, rfl, rfl⟩
  simp (maxSteps := 4000000) only [push_cast, Int.reduceEq, Int.reduceBNe, Int.reduceBEq, Int.reduceAdd, Int.reduceSub, Int.reduceMul, Int.reduceNeg, Int.reduceLT, Int.reduceLE, Int.reduceToNat, Nat.reduceLT, Nat.reduceAdd, Nat.reduceSub, Nat.reduceMul, Nat.reduceEqDiff, Nat.reduceLeDiff, Nat.reduceBEq, reduceIte, reduceCtorEq]
  refine call_w (newS_c _ _ _ _ _ _ _ _ openR_c 3 4) [] (by simp (maxSteps := 4000000) only [push_cast, Int.reduceEq, Int.reduceBNe, Int.reduceBEq, Int.reduceAdd, Int.reduceSub, Int.reduceMul, Int.reduceNeg, Int.reduceLT, Int.reduceLE, Int.reduceToNat, Nat.reduceLT, Nat.reduceAdd, Nat.reduceSub, Nat.reduceMul, Nat.reduceEqDiff, Nat.reduceLeDiff, Nat.reduceBEq, reduceIte, reduceCtorEq, modeV]) ?_
  rintro sv post ⟨rfl, rfl⟩
  simp (maxSteps := 4000000) only [push_cast, Int.reduceEq, Int.reduceBNe, Int.reduceBEq, Int.reduceAdd, Int.reduceSub, Int.reduceMul, Int.reduceNeg, Int.reduceLT, Int.reduceLE, Int.reduceToNat, Nat.reduceLT, Nat.reduceAdd, Nat.reduceSub, Nat.reduceMul, Nat.reduceEqDiff, Nat.reduceLeDiff, Nat.reduceBEq, reduceIte, reduceCtorEq, St.sv, St.cells]
  refine call_w (num16_c 0) [] (by simp (maxSteps := 4000000) only [push_cast, Int.reduceEq, Int.reduceBNe, Int.reduceBEq, Int.reduceAdd, Int.reduceSub, Int.reduceMul, Int.reduceNeg, Int.reduceLT, Int.reduceLE, Int.reduceToNat, Nat.reduceLT, Nat.reduceAdd, Nat.reduceSub, Nat.reduceMul, Nat.reduceEqDiff, Nat.reduceLeDiff, Nat.reduceBEq, reduceIte, reduceCtorEq]) ?_
  rintro sv post ⟨rfl, rfl⟩
  simp (maxSteps := 4000000) only [push_cast, Int.reduceEq, Int.reduceBNe, Int.reduceBEq, Int.reduceAdd, Int.reduceSub, Int.reduceMul, Int.reduceNeg, Int.reduceLT, Int.reduceLE, Int.reduceToNat, Nat.reduceLT, Nat.reduceAdd, Nat.reduceSub, Nat.reduceMul, Nat.reduceEqDiff, Nat.reduceLeDiff, Nat.reduceBEq, reduceIte, reduceCtorEq, may0]
  refine call_w (num16_c 0) [] (by simp (maxSteps := 4000000) only [push_cast, Int.reduceEq, Int.reduceBNe, Int.reduceBEq, Int.reduceAdd, Int.reduceSub, Int.reduceMul, Int.reduceNeg, Int.reduceLT, Int.reduceLE, Int.reduceToNat, Nat.reduceLT, Nat.reduceAdd, Nat.reduceSub, Nat.reduceMul, Nat.reduceEqDiff, Nat.reduceLeDiff, Nat.reduceBEq, reduceIte, reduceCtorEq]) ?_
  rintro sv post ⟨rfl, rfl⟩
  simp (maxSteps := 4000000) only [push_cast, Int.reduceEq, Int.reduceBNe, Int.reduceBEq, Int.reduceAdd, Int.reduceSub, Int.reduceMul, Int.reduceNeg, Int.reduceLT, Int.reduceLE, Int.reduceToNat, Nat.reduceLT, Nat.reduceAdd, Nat.reduceSub, Nat.reduceMul, Nat.reduceEqDiff, Nat.reduceLeDiff, Nat.reduceBEq, reduceIte, reduceCtorEq, e0, rg11]
  refine call_w (ReadB_c (readerM [104, 101, 108, 108, 111] b) (hR b) (newSt true false 3 4) (by exact ⟨by decide, by decide, by decide⟩) (0 : Int) (by exact ⟨by decide, by decide⟩) 2 3 (by decide) (by decide)) [2] (by simp (maxSteps := 4000000) only [push_cast, Int.reduceEq, Int.reduceBNe, Int.reduceBEq, Int.reduceAdd, Int.reduceSub, Int.reduceMul, Int.reduceNeg, Int.reduceLT, Int.reduceLE, Int.reduceToNat, Nat.reduceLT, Nat.reduceAdd, Nat.reduceSub, Nat.reduceMul, Nat.reduceEqDiff, Nat.reduceLeDiff, Nat.reduceBEq, reduceIte, reduceCtorEq, hv, hr, St.sv, St.cells, e0, exSt]) ?_
  rintro sv post ⟨rfl, rfl⟩
  rw [rd16a b]
  simp (maxSteps := 4000000) only [push_cast, Int.reduceEq, Int.reduceBNe, Int.reduceBEq, Int.reduceAdd, Int.reduceSub, Int.reduceMul, Int.reduceNeg, Int.reduceLT, Int.reduceLE, Int.reduceToNat, Nat.reduceLT, Nat.reduceAdd, Nat.reduceSub, Nat.reduceMul, Nat.reduceEqDiff, Nat.reduceLeDiff, Nat.reduceBEq, reduceIte, reduceCtorEq, hv, hr, St.sv, St.cells, exSt, rg11]
  refine call_w (bytes_c 1099511627776 1099511627776 (by decide) (by decide)) [] (by simp (maxSteps := 4000000) only [push_cast, Int.reduceEq, Int.reduceBNe, Int.reduceBEq, Int.reduceAdd, Int.reduceSub, Int.reduceMul, Int.reduceNeg, Int.reduceLT, Int.reduceLE, Int.reduceToNat, Nat.reduceLT, Nat.reduceAdd, Nat.reduceSub, Nat.reduceMul, Nat.reduceEqDiff, Nat.reduceLeDiff, Nat.reduceBEq, reduceIte, reduceCtorEq]) ?_
  rintro sv post ⟨rfl, rfl⟩
  simp (maxSteps := 4000000) only [push_cast, Int.reduceEq, Int.reduceBNe, Int.reduceBEq, Int.reduceAdd, Int.reduceSub, Int.reduceMul, Int.reduceNeg, Int.reduceLT, Int.reduceLE, Int.reduceToNat, Nat.reduceLT, Nat.reduceAdd, Nat.reduceSub, Nat.reduceMul, Nat.reduceEqDiff, Nat.reduceLeDiff, Nat.reduceBEq, reduceIte, reduceCtorEq, bv, q1]
  refine call_w (num16_c 111) [] (by simp (maxSteps := 4000000) only [push_cast, Int.reduceEq, Int.reduceBNe, Int.reduceBEq, Int.reduceAdd, Int.reduceSub, Int.reduceMul, Int.reduceNeg, Int.reduceLT, Int.reduceLE, Int.reduceToNat, Nat.reduceLT, Nat.reduceAdd, Nat.reduceSub, Nat.reduceMul, Nat.reduceEqDiff, Nat.reduceLeDiff, Nat.reduceBEq, reduceIte, reduceCtorEq]) ?_
  rintro sv post ⟨rfl, rfl⟩
  simp (maxSteps := 4000000) only [push_cast, Int.reduceEq, Int.reduceBNe, Int.reduceBEq, Int.reduceAdd, Int.reduceSub, Int.reduceMul, Int.reduceNeg, Int.reduceLT, Int.reduceLE, Int.reduceToNat, Nat.reduceLT, Nat.reduceAdd, Nat.reduceSub, Nat.reduceMul, Nat.reduceEqDiff, Nat.reduceLeDiff, Nat.reduceBEq, reduceIte, reduceCtorEq]
  refine call_w (num16_c 4) [] (by simp (maxSteps := 4000000) only [push_cast, Int.reduceEq, Int.reduceBNe, Int.reduceBEq, Int.reduceAdd, Int.reduceSub, Int.reduceMul, Int.reduceNeg, Int.reduceLT, Int.reduceLE, Int.reduceToNat, Nat.reduceLT, Nat.reduceAdd, Nat.reduceSub, Nat.reduceMul, Nat.reduceEqDiff, Nat.reduceLeDiff, Nat.reduceBEq, reduceIte, reduceCtorEq]) ?_
  rintro sv post ⟨rfl, rfl⟩
  simp (maxSteps := 4000000) only [push_cast, Int.reduceEq, Int.reduceBNe, Int.reduceBEq, Int.reduceAdd, Int.reduceSub, Int.reduceMul, Int.reduceNeg, Int.reduceLT, Int.reduceLE, Int.reduceToNat, Nat.reduceLT, Nat.reduceAdd, Nat.reduceSub, Nat.reduceMul, Nat.reduceEqDiff, Nat.reduceLeDiff, Nat.reduceBEq, reduceIte, reduceCtorEq]
  exact Fin.nil rfl (psv := .b true) rfl ⟨rfl, rfl⟩

theorem tmod_rng' (x n : Int) (hn : 0 < n) (hn2 : n ≤ 1000000) : 0 ≤ (IntKind.i64.wrap (x.tmod n + n)).tmod n ∧ (IntKind.i64.wrap (x.tmod n + n)).tmod n < n := by
  have h1 : -n < x.tmod n := by
    have := Int.tmod_lt_of_pos (-x) hn
    rw [Int.neg_tmod] at this
    omega
  have h2 := Int.tmod_lt_of_pos x hn
  rw [wrap64 (n := x.tmod n + n) (by omega) (by omega)]
  exact ⟨Int.tmod_nonneg n (a := x.tmod n + n) (by omega), Int.tmod_lt_of_pos (x.tmod n + n) hn⟩
theorem lim_rng' (x n : Int) (hn : 0 < n) (hn2 : n ≤ 1000000) : 1 ≤ IntKind.i64.wrap (1 + (IntKind.i64.wrap (x.tmod n + n)).tmod n) ∧ IntKind.i64.wrap (1 + (IntKind.i64.wrap (x.tmod n + n)).tmod n) ≤ n := by
  obtain ⟨h1, h2⟩ := tmod_rng' x n hn hn2
  rw [wrap64 (n := 1 + _) (by omega) (by omega)]
  omega

theorem read_whole (text : List Int) (hlen : text.length ≤ 1048576) (b : Nat) {m s : Int} (hm : mayV m s = 0) (sz cn : Int) (h1 : 1 ≤ sz) (h2 : 0 ≤ cn) (h3 : sz * cn ≤ 1048576) :
    ∃ x' p', (newSt true false m s).Read (readerM text b) (0 : Int) sz cn = (x', p', text.take (sz * cn).toNat, (((min (sz * cn).toNat text.length : Nat) : Int)).tdiv sz, if sz * cn ≤ text.length then 0 else 111) := by
  have hmay := newSt_may true false hm
  have hcl : (newSt true false m s).cl = false := by rw [newSt_ok true false hm]
  have h0 := Int.mul_nonneg (show 0 ≤ sz by omega) h2
  have ha : (newSt true false m s).asks sz cn = (sz * cn, 0) := by
    unfold St.asks bytesV
    rw [if_pos hmay, hcl, if_neg (by simp), if_neg (by omega)]
  unfold St.Read
  rw [ha]
  by_cases hz : sz * cn = 0
  · rw [if_pos (.inr hz), hz]
    exact ⟨newSt true false m s, (0 : Int), by simp [Int.zero_tdiv]⟩
  · rw [if_neg (by simp [hz])]
    obtain ⟨e1, e2⟩ := readGo_feeds (readerM_rd text b hlen) (reader_feeds text b) (sz * cn).toNat _ _ [] (new_reads text b false hm)
    have el : left (readerM text b) (fun p => text.drop p.toNat) (newSt true false m s) (0 : Int) = text := by
      rw [newSt_ok true false hm]; simp [left]
    rw [el] at e1 e2
    obtain ⟨x', p', o', e', hq⟩ : ∃ x' p' o' e', readGo (readerM text b) (sz * cn).toNat (newSt true false m s) (0 : Int) [] = (x', p', o', e') := ⟨_, _, _, _, rfl⟩
    rw [hq] at e1 e2
    simp only [List.nil_append] at e1 e2
    subst e1 e2
    refine ⟨x', p', ?_⟩
    dsimp only
    rw [hq, List.length_take]
    simp only [show (sz * cn).toNat ≤ text.length ↔ sz * cn ≤ (text.length : Int) by omega]

end Go.Proofs.Ytbhkpefjnomncaa
/- Elements, and lines, put onto a stream over memory that grows. -/
namespace Go.Proofs.Ytbhkpefjnomncaa
open Go Go.Eng
set_option maxHeartbeats 4000000
set_option linter.unusedSimpArgs false
set_option linter.unusedVariables false
set_option maxRecDepth 100000

theorem hgWriteB_c (b : Nat) {x : St} {g : List Int × Int} {all : List Int} (h : HG x g all) (l : List Int) (size count : Int) (hs : 1 ≤ size) (hs2 : size ≤ 1048576) (hc : 0 ≤ count) (hq : size * count = l.length) (hl : all.length + l.length ≤ 1048576) :
    Contract Try.prog 43 (preR ((growM b).res g)) [x.sv .old, (growM b).v, .ints .u8 .old l, .i .i64 size, .i .i64 count]
      (fun sv post => ∃ y k, (HG y k (all ++ l) ∧ y.m = x.m ∧ y.s = x.s) ∧ isSN (growM b) (y, k, count, 0) sv post) := by
  have hcl : count ≤ l.length := by
    rw [← hq]
    have := Int.mul_le_mul_of_nonneg_right hs hc
    omega
  have hasks : x.asks size count = ((l.length : Int), 0) := by
    unfold St.asks bytesV
    rw [if_pos h.may, if_neg (by simp [h.cl]), if_neg (by omega), hq]
  have hv : (growM b).v = .ifc 62 (.raw (.pointer (some ⟨b, 0, none⟩))) := rfl
  refine contract_ev Γok Try.func43 rfl rfl [9] ?_
  simp (maxSteps := 4000000) only [push_cast, Int.reduceEq, Int.reduceBNe, Int.reduceBEq, Int.reduceAdd, Int.reduceSub, Int.reduceMul, Int.reduceNeg, Int.reduceLT, Int.reduceLE, Int.reduceToNat, Nat.reduceLT, Nat.reduceAdd, Nat.reduceSub, Nat.reduceMul, Nat.reduceEqDiff, Nat.reduceLeDiff, Nat.reduceBEq, reduceIte, reduceCtorEq, Try.f43, St.sv, St.cells, hv, rg11]
  refine call_w (askedB_c x h.fits 62 (.pointer (some ⟨b, 0, none⟩)) size count (by omega) (by omega)) [] (by simp (maxSteps := 4000000) only [push_cast, Int.reduceEq, Int.reduceBNe, Int.reduceBEq, Int.reduceAdd, Int.reduceSub, Int.reduceMul, Int.reduceNeg, Int.reduceLT, Int.reduceLE, Int.reduceToNat, Nat.reduceLT, Nat.reduceAdd, Nat.reduceSub, Nat.reduceMul, Nat.reduceEqDiff, Nat.reduceLeDiff, Nat.reduceBEq, reduceIte, reduceCtorEq, St.sv, St.cells]) ?_
  rintro sv post ⟨rfl, rfl⟩
  rw [hasks]
  simp (maxSteps := 4000000) only [push_cast, Int.reduceEq, Int.reduceBNe, Int.reduceBEq, Int.reduceAdd, Int.reduceSub, Int.reduceMul, Int.reduceNeg, Int.reduceLT, Int.reduceLE, Int.reduceToNat, Nat.reduceLT, Nat.reduceAdd, Nat.reduceSub, Nat.reduceMul, Nat.reduceEqDiff, Nat.reduceLeDiff, Nat.reduceBEq, reduceIte, reduceCtorEq, St.sv, St.cells, rg11]
  refine ⟨fun hz => ?_, fun hz => ?_⟩
  · have hn : l = [] := by
      have : l.length = 0 := by omega
      simpa using this
    subst hn
    have hc0 : count = 0 := by simp at hcl; omega
    subst hc0
    exact Fin.w [0] (.tup [x.sv .new, .i .i64 0, .i .i64 0]) (preR ((growM b).res g)) (by simp (maxSteps := 4000000) only [push_cast, Int.reduceEq, Int.reduceBNe, Int.reduceBEq, Int.reduceAdd, Int.reduceSub, Int.reduceMul, Int.reduceNeg, Int.reduceLT, Int.reduceLE, Int.reduceToNat, Nat.reduceLT, Nat.reduceAdd, Nat.reduceSub, Nat.reduceMul, Nat.reduceEqDiff, Nat.reduceLeDiff, Nat.reduceBEq, reduceIte, reduceCtorEq, St.sv, St.cells, preR]) ⟨x, g, ⟨by simpa using h, rfl, rfl⟩, rfl, rfl⟩
  · refine call_w (hgPut_c b h l hl) [0] (by simp (maxSteps := 4000000) only [push_cast, Int.reduceEq, Int.reduceBNe, Int.reduceBEq, Int.reduceAdd, Int.reduceSub, Int.reduceMul, Int.reduceNeg, Int.reduceLT, Int.reduceLE, Int.reduceToNat, Nat.reduceLT, Nat.reduceAdd, Nat.reduceSub, Nat.reduceMul, Nat.reduceEqDiff, Nat.reduceLeDiff, Nat.reduceBEq, reduceIte, reduceCtorEq, St.sv, St.cells, hv]) ?_
    rintro sv post ⟨y, k, hy, rfl, rfl⟩
    simp (maxSteps := 4000000) only [push_cast, Int.reduceEq, Int.reduceBNe, Int.reduceBEq, Int.reduceAdd, Int.reduceSub, Int.reduceMul, Int.reduceNeg, Int.reduceLT, Int.reduceLE, Int.reduceToNat, Nat.reduceLT, Nat.reduceAdd, Nat.reduceSub, Nat.reduceMul, Nat.reduceEqDiff, Nat.reduceLeDiff, Nat.reduceBEq, reduceIte, reduceCtorEq, St.sv, St.cells, rg11]
    refine (region_plan rfl Γok mixed (.pure 0 (.pure 1 (.pure 2 (.pure 3 (.pure 4 (.eff (.cons 5 [] (.pure 6 (.pure 7 .done)) .nil))))))) 54 rfl (by kernel_rfl) ?_)
    simp (maxSteps := 4000000) only [push_cast, Int.reduceEq, Int.reduceBNe, Int.reduceBEq, Int.reduceAdd, Int.reduceSub, Int.reduceMul, Int.reduceNeg, Int.reduceLT, Int.reduceLE, Int.reduceToNat, Nat.reduceLT, Nat.reduceAdd, Nat.reduceSub, Nat.reduceMul, Nat.reduceEqDiff, Nat.reduceLeDiff, Nat.reduceBEq, reduceIte, reduceCtorEq, rg11]
    have hdiv : (l.length : Int).tdiv size = count := by rw [← hq]; exact Int.mul_tdiv_cancel_left count (by omega)
    rw [hdiv, wrap64 (n := count) (by omega) (by omega)]
    exact ⟨by omega, Fin.w [0] (.tup [y.sv .new, .i .i64 count, .i .i64 0]) (preR ((growM b).res k)) (by simp (maxSteps := 4000000) only [push_cast, Int.reduceEq, Int.reduceBNe, Int.reduceBEq, Int.reduceAdd, Int.reduceSub, Int.reduceMul, Int.reduceNeg, Int.reduceLT, Int.reduceLE, Int.reduceToNat, Nat.reduceLT, Nat.reduceAdd, Nat.reduceSub, Nat.reduceMul, Nat.reduceEqDiff, Nat.reduceLeDiff, Nat.reduceBEq, reduceIte, reduceCtorEq, St.sv, St.cells, preR]) ⟨y, k, hy, rfl, rfl⟩⟩

theorem hgPutLine_c (b : Nat) {x : St} {g : List Int × Int} {all : List Int} (h : HG x g all) (l : List Int) (hl : all.length + l.length + 1 ≤ 1048576) :
    Contract Try.prog 37 (preR ((growM b).res g)) [x.sv .old, (growM b).v, .ints .u8 .old l]
      (fun sv post => ∃ y k, (HG y k (all ++ (l ++ [10])) ∧ y.m = x.m ∧ y.s = x.s) ∧ isSN (growM b) (y, k, ((l.length + 1 : Nat) : Int), 0) sv post) := by
  have hv : (growM b).v = .ifc 62 (.raw (.pointer (some ⟨b, 0, none⟩))) := rfl
  refine contract_ev Γok Try.func37 rfl rfl [1, 4] ?_
  simp (maxSteps := 4000000) only [push_cast, Int.reduceEq, Int.reduceBNe, Int.reduceBEq, Int.reduceAdd, Int.reduceSub, Int.reduceMul, Int.reduceNeg, Int.reduceLT, Int.reduceLE, Int.reduceToNat, Nat.reduceLT, Nat.reduceAdd, Nat.reduceSub, Nat.reduceMul, Nat.reduceEqDiff, Nat.reduceLeDiff, Nat.reduceBEq, reduceIte, reduceCtorEq, Try.f37, St.sv, St.cells, hv, rg11]
  refine (region_plan rfl Γok mixed (.pure 0 (.pure 1 (.pure 2 (.pure 3 (.pure 4 (.eff (.cons 5 [0] (.eff (.cons 6 [] (.pure 7 (.pure 8 (.pure 9 (.eff (.cons 10 [0] (.eff (.cons 11 [] (.pure 12 .done) .nil)) .nil))))) (.cons 10 [0] (.eff (.cons 6 [] (.pure 7 (.pure 8 (.pure 9 (.eff (.cons 11 [] (.pure 12 .done) .nil))))) .nil)) .nil))) (.cons 10 [0] (.eff (.cons 5 [0] (.eff (.cons 6 [] (.pure 7 (.pure 8 (.pure 9 (.eff (.cons 11 [] (.pure 12 .done) .nil))))) .nil)) .nil)) .nil)))))))) 35 rfl (by kernel_rfl) ?_)
  simp (maxSteps := 4000000) only [push_cast, Int.reduceEq, Int.reduceBNe, Int.reduceBEq, Int.reduceAdd, Int.reduceSub, Int.reduceMul, Int.reduceNeg, Int.reduceLT, Int.reduceLE, Int.reduceToNat, Nat.reduceLT, Nat.reduceAdd, Nat.reduceSub, Nat.reduceMul, Nat.reduceEqDiff, Nat.reduceLeDiff, Nat.reduceBEq, reduceIte, reduceCtorEq, rg11]
  rw [show decide (1048575 < (l.length : Int)) = false from decide_eq_false (by omega)]
  and_intros
  all_goals
    refine call_w (when_c false 5) [] (by simp (maxSteps := 4000000) only [push_cast, Int.reduceEq, Int.reduceBNe, Int.reduceBEq, Int.reduceAdd, Int.reduceSub, Int.reduceMul, Int.reduceNeg, Int.reduceLT, Int.reduceLE, Int.reduceToNat, Nat.reduceLT, Nat.reduceAdd, Nat.reduceSub, Nat.reduceMul, Nat.reduceEqDiff, Nat.reduceLeDiff, Nat.reduceBEq, reduceIte, reduceCtorEq]) ?_
    rintro sv post ⟨rfl, rfl⟩
    simp (maxSteps := 4000000) only [push_cast, Int.reduceEq, Int.reduceBNe, Int.reduceBEq, Int.reduceAdd, Int.reduceSub, Int.reduceMul, Int.reduceNeg, Int.reduceLT, Int.reduceLE, Int.reduceToNat, Nat.reduceLT, Nat.reduceAdd, Nat.reduceSub, Nat.reduceMul, Nat.reduceEqDiff, Nat.reduceLeDiff, Nat.reduceBEq, reduceIte, reduceCtorEq, rg11]
    and_intros
    all_goals
      refine call_w (asked_c x h.fits 62 (.pointer (some ⟨b, 0, none⟩)) 0) [] (by simp (maxSteps := 4000000) only [push_cast, Int.reduceEq, Int.reduceBNe, Int.reduceBEq, Int.reduceAdd, Int.reduceSub, Int.reduceMul, Int.reduceNeg, Int.reduceLT, Int.reduceLE, Int.reduceToNat, Nat.reduceLT, Nat.reduceAdd, Nat.reduceSub, Nat.reduceMul, Nat.reduceEqDiff, Nat.reduceLeDiff, Nat.reduceBEq, reduceIte, reduceCtorEq, St.sv, St.cells]) ?_
      rintro sv post ⟨rfl, rfl⟩
      rw [aErr0 h.bErr]
      simp (maxSteps := 4000000) only [push_cast, Int.reduceEq, Int.reduceBNe, Int.reduceBEq, Int.reduceAdd, Int.reduceSub, Int.reduceMul, Int.reduceNeg, Int.reduceLT, Int.reduceLE, Int.reduceToNat, Nat.reduceLT, Nat.reduceAdd, Nat.reduceSub, Nat.reduceMul, Nat.reduceEqDiff, Nat.reduceLeDiff, Nat.reduceBEq, reduceIte, reduceCtorEq, St.sv, St.cells, rg11]
      refine (region_plan rfl Γok mixed (.pure 0 (.pure 1 (.pure 2 (.eff (.cons 3 [0] (.eff (.cons 4 [0] (.eff (.cons 5 [0] (.eff (.cons 6 [] (.pure 7 (.pure 8 (.pure 9 (.eff (.cons 10 [] (.pure 11 (.pure 12 .done)) .nil))))) .nil)) .nil)) .nil)) (.cons 4 [0] (.eff (.cons 3 [0] (.eff (.cons 5 [0] (.eff (.cons 6 [] (.pure 7 (.pure 8 (.pure 9 (.eff (.cons 10 [] (.pure 11 (.pure 12 .done)) .nil))))) .nil)) .nil)) .nil)) .nil)))))) 35 rfl (by kernel_rfl) ?_)
      simp (maxSteps := 4000000) only [push_cast, Int.reduceEq, Int.reduceBNe, Int.reduceBEq, Int.reduceAdd, Int.reduceSub, Int.reduceMul, Int.reduceNeg, Int.reduceLT, Int.reduceLE, Int.reduceToNat, Nat.reduceLT, Nat.reduceAdd, Nat.reduceSub, Nat.reduceMul, Nat.reduceEqDiff, Nat.reduceLeDiff, Nat.reduceBEq, reduceIte, reduceCtorEq, rg11]
      and_intros
      all_goals
        refine call_w (sclone_c l (by omega)) [] (by simp (maxSteps := 4000000) only [push_cast, Int.reduceEq, Int.reduceBNe, Int.reduceBEq, Int.reduceAdd, Int.reduceSub, Int.reduceMul, Int.reduceNeg, Int.reduceLT, Int.reduceLE, Int.reduceToNat, Nat.reduceLT, Nat.reduceAdd, Nat.reduceSub, Nat.reduceMul, Nat.reduceEqDiff, Nat.reduceLeDiff, Nat.reduceBEq, reduceIte, reduceCtorEq]) ?_
        rintro sv post ⟨rfl, rfl⟩
        simp (maxSteps := 4000000) only [push_cast, Int.reduceEq, Int.reduceBNe, Int.reduceBEq, Int.reduceAdd, Int.reduceSub, Int.reduceMul, Int.reduceNeg, Int.reduceLT, Int.reduceLE, Int.reduceToNat, Nat.reduceLT, Nat.reduceAdd, Nat.reduceSub, Nat.reduceMul, Nat.reduceEqDiff, Nat.reduceLeDiff, Nat.reduceBEq, reduceIte, reduceCtorEq, rg11]
        refine ⟨by omega, ?_⟩
        have hp := hgPut_c b h (l ++ [10]) (by simp; omega)
        simp only [List.length_append, List.length_singleton] at hp
        refine call_w hp [0] (by simp (maxSteps := 4000000) only [push_cast, Int.reduceEq, Int.reduceBNe, Int.reduceBEq, Int.reduceAdd, Int.reduceSub, Int.reduceMul, Int.reduceNeg, Int.reduceLT, Int.reduceLE, Int.reduceToNat, Nat.reduceLT, Nat.reduceAdd, Nat.reduceSub, Nat.reduceMul, Nat.reduceEqDiff, Nat.reduceLeDiff, Nat.reduceBEq, reduceIte, reduceCtorEq, St.sv, St.cells, hv]) ?_
        rintro sv post ⟨y, k, hy, rfl, rfl⟩
        simp (maxSteps := 4000000) only [push_cast, Int.reduceEq, Int.reduceBNe, Int.reduceBEq, Int.reduceAdd, Int.reduceSub, Int.reduceMul, Int.reduceNeg, Int.reduceLT, Int.reduceLE, Int.reduceToNat, Nat.reduceLT, Nat.reduceAdd, Nat.reduceSub, Nat.reduceMul, Nat.reduceEqDiff, Nat.reduceLeDiff, Nat.reduceBEq, reduceIte, reduceCtorEq, St.sv, St.cells, rg11]
        exact Fin.w [0] (.tup [y.sv .new, .i .i64 ((l.length + 1 : Nat) : Int), .i .i64 0]) (preR ((growM b).res k)) (by simp (maxSteps := 4000000) only [push_cast, Int.reduceEq, Int.reduceBNe, Int.reduceBEq, Int.reduceAdd, Int.reduceSub, Int.reduceMul, Int.reduceNeg, Int.reduceLT, Int.reduceLE, Int.reduceToNat, Nat.reduceLT, Nat.reduceAdd, Nat.reduceSub, Nat.reduceMul, Nat.reduceEqDiff, Nat.reduceLeDiff, Nat.reduceBEq, reduceIte, reduceCtorEq, St.sv, St.cells, preR]) ⟨y, k, hy, rfl, rfl⟩
end Go.Proofs.Ytbhkpefjnomncaa
