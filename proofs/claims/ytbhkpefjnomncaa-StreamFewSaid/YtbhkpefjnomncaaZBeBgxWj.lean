/- Texts joined, in order: Be, Bf, Cf, Bg. -/
import Derived.Test.YtbhkpefjnomncaaZBaCe
import Derived.Test.YtbhkpefjnomncaaZKbPb
/- How many writes and reads a stream over counters makes. -/
namespace Go.Proofs.Ytbhkpefjnomncaa
open Go Go.Eng
set_option maxHeartbeats 4000000
set_option linter.unusedSimpArgs false
set_option linter.unusedVariables false

theorem wr_len (m s : Int) : ∀ (t : List Int) (n : Int), (wr m s t n).length ≤ t.length + 1
  | [], n => by rw [wr]; split <;> simp
  | c :: r, n => by
    rw [wr]
    split
    · have := wr_len m s r 0; simp only [List.length_cons]; omega
    · have := wr_len m s r (n + 1); simp only [List.length_cons]; omega

/-- A stream that writes a text onto a counter: the writes that have been made, and those to come. -/
structure Counts (x : St) (g : List Int × Int) (text : List Int) (i : Nat) : Prop where
  holds : Holds x g (text.take i)
  n0 : 0 ≤ g.2
  lt : (x.o.length : Int) < x.s
  cnt : g.2 + ((wr x.m x.s (text.drop i) x.o.length).length : Nat) = ((wr x.m x.s text 0).length : Nat)

theorem new_counts (text : List Int) {m s : Int} (h : mayV m s = 0) : Counts (newSt false true m s) ([], 0) text 0 := by
  have e := newSt_ok false true h
  obtain ⟨a1, a2, a3, a4⟩ := may_zero' h
  refine ⟨by rw [List.take_zero]; exact new_holds h, Int.le_refl _, by rw [e]; simp; omega, by rw [e]; simp⟩

theorem count_put (b : Nat) {x : St} {g : List Int × Int} {text : List Int} {i : Nat} (h : Counts x g text i) (hi : i < text.length) (hl : text.length ≤ 1048576) :
    ∃ x' g', x.Put (counterM b) g (text.getD i 0) = (x', g', 0) ∧ Counts x' g' text (i + 1) ∧ x'.m = x.m ∧ x'.s = x.s := by
  obtain ⟨h, n0, hlt, hcnt⟩ := h
  have hb := h.bErr
  have htake : text.take (i + 1) = text.take i ++ [text.getD i 0] := by
    rw [List.take_succ_eq_append_getElem hi]; simp [List.getD, hi]
  have hwl := wr_len x.m x.s text 0
  obtain ⟨r, w, m, s, o, i0, k, d, en, bad, cl⟩ := x
  obtain ⟨h1, h2, h3, h4, h5, h6, h7⟩ := h
  simp only at h2 h3 h4 h5 h6 h7 hlt hcnt hwl
  subst h2 h3 h5 h6
  obtain ⟨m1, m2, m3, m4, m5, m6, m7⟩ := h1
  simp only at m1 m2 m3
  obtain ⟨a1, a2, a3, a4⟩ := may_zero' m1
  have mk : ∀ (o' : List Int), o'.length ≤ s → (¬ m = 1 ∨ o'.length = 0) → St.May ⟨r, true, m, s, o', [], [], 2, en, bad, false⟩ := fun o' q1 q2 =>
    ⟨m1, q1, q2, by simp, by simp, .inl rfl, .inr (.inr ⟨rfl, rfl, rfl, rfl⟩)⟩
  have hwe : St.wErr ⟨r, true, m, s, o, [], [], d, en, bad, false⟩ = 0 := by simp [St.wErr, h4]
  have hnote : ∀ (y : St), y.noted 0 = y := fun y => by simp [St.noted]
  have hd := wr_drop m s text i hi o.length
  generalize text.getD i 0 = c at htake hd ⊢
  have hwrap : ∀ q : Nat, g.2 + ((q + 1 : Nat) : Int) = ((wr m s text 0).length : Nat) → IntKind.i64.wrap (g.2 + 1) = g.2 + 1 := fun q hq => wrap64 (by omega) (by omega)
  unfold St.Put St.put
  rw [if_neg (by rw [hb]; simp), if_neg (by rw [hwe]; simp)]
  dsimp only
  split
  · rename_i hm
    have ho : o = [] := by
      have : o.length = 0 := by omega
      simpa using this
    subst ho
    rw [counter_putV, hnote]
    rw [if_pos (.inl hm)] at hd
    rw [hd] at hcnt
    simp only [List.length_cons] at hcnt
    have hw := hwrap _ hcnt
    refine ⟨_, _, rfl, ⟨⟨mk [] (by simp; omega) (.inr rfl), rfl, rfl, by simp, rfl, rfl, ?_⟩, ?_, by simp; omega, ?_⟩, rfl, rfl⟩
    · rw [htake, ← h7]; simp
    · dsimp only; rw [if_neg (by simp), hw]; omega
    · dsimp only; rw [if_neg (by simp), hw]; simp only [List.length_nil, Int.natCast_zero]; omega
  · rename_i hm
    rw [if_neg (by omega)]
    unfold St.put1
    dsimp only
    have hol : (o ++ [c]).length = o.length + 1 := by simp
    split
    · rename_i hc
      rw [if_pos (by rw [hol] at hc; omega)] at hd
      rw [hd] at hcnt
      simp only [List.length_cons] at hcnt
      have hw := hwrap _ hcnt
      have hdel : St.deliver (counterM b) ⟨r, true, m, s, o ++ [c], [], [], 2, en, bad, false⟩ g = (⟨r, true, m, s, [], [], [], 2, en, bad, false⟩, (g.1 ++ (o ++ [c]), g.2 + 1), 0) := by
        unfold St.deliver
        dsimp only
        rw [counter_putV, hnote, if_neg (by simp), hw]
        rfl
      rw [hdel]
      refine ⟨_, _, rfl, ⟨⟨mk [] (by simp; omega) (.inr rfl), rfl, rfl, by simp, rfl, rfl, ?_⟩, ?_, by simp; omega, ?_⟩, rfl, rfl⟩
      · rw [htake, ← h7]; simp
      · dsimp only; omega
      · dsimp only; simp only [List.length_nil, Int.natCast_zero]; omega
    · rename_i hc
      rw [if_neg (by rw [hol] at hc; omega)] at hd
      rw [hd] at hcnt
      refine ⟨_, _, rfl, ⟨⟨mk (o ++ [c]) (by rw [hol]; omega) (.inl hm), rfl, rfl, by simp, rfl, rfl, ?_⟩, n0, ?_, ?_⟩, rfl, rfl⟩
      · rw [htake, ← h7]; simp
      · dsimp only; rw [hol] at hc ⊢; omega
      · dsimp only; rw [hol]; exact hcnt

theorem count_close (b : Nat) {x : St} {g : List Int × Int} {text : List Int} (h : Counts x g text text.length) (hl : text.length ≤ 1048576) :
    ∃ x' n, x.Close (counterM b) g = (x', (text, n), 0) ∧ n = ((wr x.m x.s text 0).length : Nat) := by
  obtain ⟨h, n0, hlt, hcnt⟩ := h
  have hb := h.bErr
  have hwl := wr_len x.m x.s text 0
  have heq := h.eq
  rw [List.take_length] at heq
  rw [List.drop_length, wr] at hcnt
  unfold St.Close St.deliver
  rw [if_neg (by rw [hb]; simp)]
  dsimp only
  rw [counter_putV, heq]
  refine ⟨_, _, rfl, ?_⟩
  by_cases ho : x.o = []
  · rw [if_pos ho]
    rw [ho] at hcnt
    simp at hcnt
    exact hcnt
  · have hp := List.length_pos_iff.2 ho
    rw [if_neg ho]
    rw [if_pos (by omega)] at hcnt
    simp only [List.length_cons, List.length_nil] at hcnt
    rw [wrap64 (by omega) (by omega), ← hcnt]
    simp

theorem pcs_spec {u x : Int} (h : 1 ≤ u) : x ≤ u * pcs u x ∧ u * pcs u x < x + u := by
  unfold pcs
  have h1 := Int.emod_add_mul_ediv (x + u - 1) u
  have h2 := Int.emod_nonneg (x + u - 1) (show u ≠ 0 by omega)
  have h3 := Int.emod_lt_of_pos (x + u - 1) (show 0 < u by omega)
  omega
theorem pcs_uniq {u x k : Int} (h : 1 ≤ u) (h1 : x ≤ u * k) (h2 : u * k < x + u) : pcs u x = k := by
  obtain ⟨q1, q2⟩ := pcs_spec (x := x) h
  have a : pcs u x - k < 1 := by
    refine Int.lt_of_mul_lt_mul_left (a := u) ?_ (by omega)
    rw [Int.mul_sub]; omega
  have b : k - pcs u x < 1 := by
    refine Int.lt_of_mul_lt_mul_left (a := u) ?_ (by omega)
    rw [Int.mul_sub]; omega
  omega

theorem counterR_some (data : List Int) (b : Nat) (g : Int × Int) (n : Int) (h0 : 0 ≤ g.1) (h1 : g.1 ≤ data.length) (hn : 0 ≤ n) :
    someV (counterRM data b) g n = ((g.1 + (readV data g.1 n).length, IntKind.i64.wrap (g.2 + 1)), readV data g.1 n, 0) := by
  have hl := readV_len data g.1 n h0 h1 hn
  obtain ⟨F, hF⟩ : ∃ F, 8192 = F + 1 := ⟨8191, rfl⟩
  have e0 : someV (counterRM data b) g n = RawM.some (counterRM data b) n (F + 1) g := by unfold someV; rw [hF]
  rw [e0]
  simp only [RawM.some]
  have e : (counterRM data b).rd g n = ((g.1 + (readV data g.1 n).length, IntKind.i64.wrap (g.2 + 1)), readV data g.1 n, 0) := rfl
  rw [e]
  dsimp only
  rw [if_neg (by omega), if_neg (by simp), if_neg (by omega)]
  rfl

/-- A stream that reads a counter's data: where it is behind so many calls. -/
structure RCounts (x : St) (g : Int × Int) (data : List Int) (i : Nat) : Prop where
  may : x.May
  r : x.r = true
  cl : x.cl = false
  d : x.d ≠ 2
  k : x.k = []
  o : x.o = []
  g0 : 0 ≤ g.1
  g1 : g.1 ≤ data.length
  n0 : 0 ≤ g.2
  n1 : g.2 ≤ i
  on : i ≤ data.length → x.en = false ∧ i ≤ g.1.toNat ∧ x.i = (data.take g.1.toNat).drop i ∧ (g.1 ≤ askV x.m x.s * g.2 ∧ (g.1 = data.length ∨ g.1 = askV x.m x.s * g.2)) ∧ g.2 = pcs (askV x.m x.s) i
  off : data.length < i → x.en = true ∧ x.i = [] ∧ g.2 = pcs (askV x.m x.s) data.length + 1

theorem RCounts.bErr {x : St} {g : Int × Int} {data : List Int} {i : Nat} (h : RCounts x g data i) : x.bErr = 0 := by
  unfold St.bErr; rw [if_pos h.may, if_neg (by simp [h.cl])]
theorem RCounts.fits {x : St} {g : Int × Int} {data : List Int} {i : Nat} (h : RCounts x g data i) : x.fits := by
  obtain ⟨b1, b2, b3, b4⟩ := May.bd h.may
  exact ⟨by omega, by omega, by omega⟩

theorem new_rcounts (data : List Int) {m s : Int} (h : mayV m s = 0) : RCounts (newSt true false m s) (0, 0) data 0 := by
  have e := newSt_ok true false h
  obtain ⟨a1, a2⟩ := ask_rng h
  refine ⟨newSt_may true false h, by rw [e], by rw [e], by rw [e]; simp, by rw [e], by rw [e], Int.le_refl _, by simp, Int.le_refl _, by simp, fun _ => ⟨by rw [e], by simp, by rw [e]; simp, ⟨by simp, .inr (by simp)⟩, ?_⟩, fun h => absurd h (by omega)⟩
  rw [e]
  exact (pcs_zero a1).symm

theorem rcount_get (data : List Int) (b : Nat) {x : St} {g : Int × Int} {i : Nat} (h : RCounts x g data i) (hl : data.length ≤ 1048576) (hi : i ≤ 1048576) :
    ∃ x' g' c e, x.Get (counterRM data b) g = (x', g', c, e) ∧ RCounts x' g' data (i + 1) ∧ x'.m = x.m ∧ x'.s = x.s ∧ (i < data.length → c = data.getD i 0 ∧ e = 0) := by
  have hb := h.bErr
  obtain ⟨r, w, m, s, o, iv, k, d, en, bad, cl⟩ := x
  obtain ⟨h1, h2, h3, h4, h5, h6, p0, p1, n0, n1, hon, hoff⟩ := h
  simp only at h2 h3 h4 h5 h6 hon hoff
  subst h2 h3 h5 h6
  obtain ⟨p, n⟩ := g
  simp only at p0 p1 n0 n1 hon hoff
  obtain ⟨b1, b2, b3, b4⟩ := May.bd h1
  simp only at b1 b3
  obtain ⟨u1, u2⟩ := ask_rng b1
  have hnote : ∀ (y : St), y.noted 0 = y := fun y => by simp [St.noted]
  unfold St.Get
  rw [if_neg (by rw [hb]; simp)]
  unfold St.get
  try dsimp only
  rw [if_neg (by simp), if_neg h4, if_neg (by simp)]
  by_cases hlt : i ≤ data.length
  · obtain ⟨rfl, hp, hiv, ⟨hpu0, hpe⟩, hn⟩ := hon hlt
    by_cases hne : iv = []
    · -- a read
      rw [if_neg (by simp [hne])]
      have hip : i = p.toNat := by
        rw [hne] at hiv
        have := congrArg List.length hiv
        simp at this
        omega
      unfold St.fill
      try dsimp only
      simp only [Bool.false_eq_true, if_false]
      have hw : IntKind.i64.wrap (n + 1) = n + 1 := wrap64 (by omega) (by omega)
      have hz : someV (counterRM data b) (p, n) (askV m s) = ((p + (readV data p (askV m s)).length, n + 1), readV data p (askV m s), 0) := by
        rw [counterR_some data b (p, n) _ p0 p1 (by omega)]
        try dsimp only
        rw [hw]
      by_cases hend : i = data.length
      · have hr : readV data p (askV m s) = [] := by unfold readV; rw [List.drop_of_length_le (by omega)]; simp
        have hz2 : someV (counterRM data b) (p, n) (askV m s) = ((p, n + 1), ([] : List Int), (0 : Int)) := by
          rw [hz, hr]; simp; rfl
        rw [hz2]
        try dsimp only
        rw [if_pos (show (0 : Int) = 0 ∧ ([] : List Int) = [] from ⟨rfl, rfl⟩)]
        try dsimp only
        rw [if_pos (by simp)]
        refine ⟨_, _, _, _, rfl, ⟨?_, rfl, rfl, by simp, rfl, rfl, ?_, ?_, ?_, ?_, fun h => absurd h (by omega), fun _ => ⟨rfl, hne, ?_⟩⟩, rfl, rfl, fun h => absurd h (by omega)⟩
        · rw [hne]; exact may_got h1 rfl rfl (by simp) (by simp)
        · (try dsimp only); (try simp); exact p0
        · (try dsimp only); (try simp); exact p1
        · (try dsimp only); omega
        · (try dsimp only); omega
        · dsimp only; rw [hn, hend]
      · have hr : (readV data p (askV m s)).length = min (askV m s).toNat (data.length - i) := by unfold readV; rw [List.length_take, List.length_drop, hip]
        have hrn : readV data p (askV m s) ≠ [] := by intro h0; rw [h0] at hr; simp at hr; omega
        have hseg0 : ∀ q : Nat, q = (readV data p (askV m s)).length → readV data p (askV m s) = (data.take (p + (q : Int)).toNat).drop i := by
          rintro q rfl
          rw [hip, List.drop_take, show (p + ((readV data p (askV m s)).length : Int)).toNat - p.toNat = (readV data p (askV m s)).length by omega, hr, hip]
          unfold readV
          rcases Nat.le_total (askV m s).toNat (data.length - p.toNat) with h | h
          · rw [Nat.min_eq_left h]
          · rw [Nat.min_eq_right h, List.take_of_length_le (by simp; omega), List.take_of_length_le (by simp)]
        have hget : i < data.length → (readV data p (askV m s)).getD 0 0 = data.getD i 0 := by
          intro hid
          unfold readV
          simp only [List.getD_eq_getElem?_getD]
          rw [List.getElem?_take, if_pos (by omega), List.getElem?_drop, hip]
          simp
        generalize readV data p (askV m s) = L at hz hr hrn hseg0 hget
        rw [hz]
        try dsimp only
        rw [if_neg (show ¬ ((0 : Int) = 0 ∧ L = []) from fun h => hrn h.2)]
        try dsimp only
        rw [hnote, if_neg (by simp)]
        have hpu : p = askV m s * n := by
          rcases hpe with hpe | hpe
          · omega
          · exact hpe
        have hmul : askV m s * (n + 1) = p + askV m s := by rw [Int.mul_add, ← hpu]; omega
        have hseg := hseg0 L.length rfl
        refine ⟨_, _, _, _, rfl, ⟨?_, rfl, rfl, by simp, rfl, rfl, ?_, ?_, ?_, ?_, fun hle => ⟨rfl, ?_, ?_, ?_, ?_⟩, fun h => absurd h (by omega)⟩, rfl, rfl, fun hid => ⟨?_, rfl⟩⟩
        · refine may_got h1 rfl rfl ?_ (by simp)
          try dsimp only
          rw [List.length_drop, List.length_append, hne, hr]
          simp
          omega
        · (try dsimp only); omega
        · (try dsimp only); omega
        · (try dsimp only); omega
        · (try dsimp only); omega
        · (try dsimp only); omega
        · try dsimp only
          rw [hne, List.nil_append]
          conv => lhs; rw [hseg]
          rw [List.drop_drop]
        · try dsimp only
          refine ⟨by rw [hmul]; omega, ?_⟩
          by_cases hfull : (askV m s).toNat ≤ data.length - i
          · right; rw [hmul]; omega
          · left; omega
        · try dsimp only
          exact (pcs_uniq u1 (by rw [hmul]; omega) (by rw [hmul]; omega)).symm
        · try dsimp only
          rw [hne, List.nil_append]
          exact hget hid
    · rw [if_pos hne]
      have hlen : iv.length = p.toNat - i := by rw [hiv, List.length_drop, List.length_take]; omega
      have hpos := List.length_pos_iff.2 hne
      obtain ⟨q1, q2⟩ := pcs_spec (u := askV m s) (x := (i : Int)) u1
      rw [← hn] at q1 q2
      refine ⟨_, _, _, _, rfl, ⟨?_, rfl, rfl, by simp, rfl, rfl, p0, p1, n0, ?_, fun hle => ⟨rfl, ?_, ?_, ⟨hpu0, hpe⟩, ?_⟩, fun h => absurd h (by omega)⟩, rfl, rfl, fun hid => ⟨?_, rfl⟩⟩
      · exact may_got h1 rfl rfl (by (try dsimp only); rw [List.length_drop]; omega) (by simp)
      · (try dsimp only); omega
      · (try dsimp only); omega
      · try dsimp only
        rw [hiv, List.drop_drop]
      · try dsimp only
        refine (pcs_uniq u1 ?_ (by omega)).symm
        omega
      · try dsimp only
        rw [hiv]
        simp only [List.getD_eq_getElem?_getD]
        rw [List.getElem?_drop, List.getElem?_take, if_pos (by omega)]
        simp
  · obtain ⟨rfl, rfl, hn⟩ := hoff (by omega)
    rw [if_neg (by simp)]
    unfold St.fill
    simp only [if_true]
    rw [if_pos (by simp)]
    refine ⟨_, _, _, _, rfl, ⟨may_got h1 rfl rfl (by simp) (by simp), rfl, rfl, by simp, rfl, rfl, p0, p1, n0, by dsimp only; omega, fun h => absurd h (by omega), fun _ => ⟨rfl, rfl, hn⟩⟩, rfl, rfl, fun h => absurd h (by omega)⟩
end Go.Proofs.Ytbhkpefjnomncaa
/- BufmodeTrue: a stream makes just the writes, and the reads, that are told. -/
namespace Go.Proofs.Ytbhkpefjnomncaa
open Go Go.Eng
set_option maxHeartbeats 4000000
set_option linter.unusedSimpArgs false
set_option linter.unusedVariables false
set_option maxRecDepth 100000

theorem copyB_c (l : List Int) (hl : l.length ≤ 140737488355328) : Contract Try.prog 26 nilSS [.ints .u8 .old l] (fun sv post => sv = .ints .u8 (.tok 0 true) l ∧ post = ⟨[], [], [0], [], 1, 0, []⟩) := by
  refine contract_ev Γok Try.func26 rfl rfl [] ?_
  simp (maxSteps := 4000000) only [push_cast, Int.reduceEq, Int.reduceBNe, Int.reduceBEq, Int.reduceAdd, Int.reduceSub, Int.reduceMul, Int.reduceNeg, Int.reduceLT, Int.reduceLE, Int.reduceToNat, Nat.reduceLT, Nat.reduceAdd, Nat.reduceSub, Nat.reduceMul, Nat.reduceEqDiff, Nat.reduceLeDiff, Nat.reduceBEq, reduceIte, reduceCtorEq, Try.f26]
  exact ⟨by omega, Fin.w [0] (.ints .u8 (.tok 0 true) l) _ (by simp (maxSteps := 4000000) only [push_cast, Int.reduceEq, Int.reduceBNe, Int.reduceBEq, Int.reduceAdd, Int.reduceSub, Int.reduceMul, Int.reduceNeg, Int.reduceLT, Int.reduceLE, Int.reduceToNat, Nat.reduceLT, Nat.reduceAdd, Nat.reduceSub, Nat.reduceMul, Nat.reduceEqDiff, Nat.reduceLeDiff, Nat.reduceBEq, reduceIte, reduceCtorEq]) ⟨rfl, rfl⟩⟩

def mod4 (n : Int) : Int := ((n.tmod 4000) + 4000).tmod 4000
theorem mod4_rng (n : Int) : 0 ≤ mod4 n ∧ mod4 n < 4000 ∧ IntKind.i64.wrap (n.tmod 4000 + 4000) = n.tmod 4000 + 4000 := by
  have h1 := Int.tmod_lt_of_pos n (show (0 : Int) < 4000 by omega)
  have h2 : -4000 < n.tmod 4000 := by
    have := Int.lt_tmod_of_pos n (show (0 : Int) < 4000 by omega)
    omega
  unfold mod4
  refine ⟨Int.tmod_nonneg _ (by omega), Int.tmod_lt_of_pos _ (by omega), wrap64 (by omega) (by omega)⟩

theorem bufmodeTrue_c (m s : Int) (text : List Int) (n : Int) : Contract Try.prog 6 nilSS [.i .i64 m, .i .i64 s, .ints .u8 .old text, .i .i64 n] (fun sv post => sv = .b true ∧ post = nilSS) := by
  refine contract_ev Γok Try.func6 rfl rfl [22] ?_
  simp (maxSteps := 4000000) only [push_cast, Int.reduceEq, Int.reduceBNe, Int.reduceBEq, Int.reduceAdd, Int.reduceSub, Int.reduceMul, Int.reduceNeg, Int.reduceLT, Int.reduceLE, Int.reduceToNat, Nat.reduceLT, Nat.reduceAdd, Nat.reduceSub, Nat.reduceMul, Nat.reduceEqDiff, Nat.reduceLeDiff, Nat.reduceBEq, reduceIte, reduceCtorEq, Try.f6]
  refine call_w alive12_c [] (by simp (maxSteps := 4000000) only [push_cast, Int.reduceEq, Int.reduceBNe, Int.reduceBEq, Int.reduceAdd, Int.reduceSub, Int.reduceMul, Int.reduceNeg, Int.reduceLT, Int.reduceLE, Int.reduceToNat, Nat.reduceLT, Nat.reduceAdd, Nat.reduceSub, Nat.reduceMul, Nat.reduceEqDiff, Nat.reduceLeDiff, Nat.reduceBEq, reduceIte, reduceCtorEq]) ?_
  rintro sv post ⟨rfl, rfl⟩
  simp (maxSteps := 4000000) only [push_cast, Int.reduceEq, Int.reduceBNe, Int.reduceBEq, Int.reduceAdd, Int.reduceSub, Int.reduceMul, Int.reduceNeg, Int.reduceLT, Int.reduceLE, Int.reduceToNat, Nat.reduceLT, Nat.reduceAdd, Nat.reduceSub, Nat.reduceMul, Nat.reduceEqDiff, Nat.reduceLeDiff, Nat.reduceBEq, reduceIte, reduceCtorEq]
  obtain ⟨T, hT, hT1, hT2⟩ : ∃ T : List Int, T.length ≤ 3000 ∧ (3000 < (text.length : Int) → text.take 3000 = T) ∧ ((text.length : Int) ≤ 3000 → text = T) := by
    by_cases h : text.length ≤ 3000
    · exact ⟨text, h, fun h2 => by omega, fun _ => rfl⟩
    · exact ⟨text.take 3000, by simp; omega, fun _ => rfl, fun h2 => by omega⟩
  refine ⟨fun hlen => ⟨by omega, ?_⟩, fun hlen => ?_⟩
  all_goals
    first
      | rw [hT1 hlen]
      | rw [hT2 hlen]
    clear hT1 hT2 hlen
    refine call_w (writes_c m s T) [] (by simp (maxSteps := 4000000) only [push_cast, Int.reduceEq, Int.reduceBNe, Int.reduceBEq, Int.reduceAdd, Int.reduceSub, Int.reduceMul, Int.reduceNeg, Int.reduceLT, Int.reduceLE, Int.reduceToNat, Nat.reduceLT, Nat.reduceAdd, Nat.reduceSub, Nat.reduceMul, Nat.reduceEqDiff, Nat.reduceLeDiff, Nat.reduceBEq, reduceIte, reduceCtorEq]) ?_
    rintro sv post ⟨rfl, rfl⟩
    simp (maxSteps := 4000000) only [push_cast, Int.reduceEq, Int.reduceBNe, Int.reduceBEq, Int.reduceAdd, Int.reduceSub, Int.reduceMul, Int.reduceNeg, Int.reduceLT, Int.reduceLE, Int.reduceToNat, Nat.reduceLT, Nat.reduceAdd, Nat.reduceSub, Nat.reduceMul, Nat.reduceEqDiff, Nat.reduceLeDiff, Nat.reduceBEq, reduceIte, reduceCtorEq]
    refine call_w (newS_c _ _ _ _ _ _ _ _ openW_c m s) [] (by simp (maxSteps := 4000000) only [push_cast, Int.reduceEq, Int.reduceBNe, Int.reduceBEq, Int.reduceAdd, Int.reduceSub, Int.reduceMul, Int.reduceNeg, Int.reduceLT, Int.reduceLE, Int.reduceToNat, Nat.reduceLT, Nat.reduceAdd, Nat.reduceSub, Nat.reduceMul, Nat.reduceEqDiff, Nat.reduceLeDiff, Nat.reduceBEq, reduceIte, reduceCtorEq, modeV]) ?_
    rintro sv post ⟨rfl, rfl⟩
    simp (maxSteps := 4000000) only [push_cast, Int.reduceEq, Int.reduceBNe, Int.reduceBEq, Int.reduceAdd, Int.reduceSub, Int.reduceMul, Int.reduceNeg, Int.reduceLT, Int.reduceLE, Int.reduceToNat, Nat.reduceLT, Nat.reduceAdd, Nat.reduceSub, Nat.reduceMul, Nat.reduceEqDiff, Nat.reduceLeDiff, Nat.reduceBEq, reduceIte, reduceCtorEq, St.sv, St.cells]
    refine call_w (newS_c _ _ _ _ _ _ _ _ openR_c m s) [] (by simp (maxSteps := 4000000) only [push_cast, Int.reduceEq, Int.reduceBNe, Int.reduceBEq, Int.reduceAdd, Int.reduceSub, Int.reduceMul, Int.reduceNeg, Int.reduceLT, Int.reduceLE, Int.reduceToNat, Nat.reduceLT, Nat.reduceAdd, Nat.reduceSub, Nat.reduceMul, Nat.reduceEqDiff, Nat.reduceLeDiff, Nat.reduceBEq, reduceIte, reduceCtorEq, modeV]) ?_
    rintro sv post ⟨rfl, rfl⟩
    simp (maxSteps := 4000000) only [push_cast, Int.reduceEq, Int.reduceBNe, Int.reduceBEq, Int.reduceAdd, Int.reduceSub, Int.reduceMul, Int.reduceNeg, Int.reduceLT, Int.reduceLE, Int.reduceToNat, Nat.reduceLT, Nat.reduceAdd, Nat.reduceSub, Nat.reduceMul, Nat.reduceEqDiff, Nat.reduceLeDiff, Nat.reduceBEq, reduceIte, reduceCtorEq, St.sv, St.cells]
    have he : writesE m s T = mayV m s := by unfold writesE; split <;> rename_i h; rw [if_pos (by omega), h]; rfl
    rw [he]
    refine call_w (num_c (mayV m s)) [] (by simp (maxSteps := 4000000) only [push_cast, Int.reduceEq, Int.reduceBNe, Int.reduceBEq, Int.reduceAdd, Int.reduceSub, Int.reduceMul, Int.reduceNeg, Int.reduceLT, Int.reduceLE, Int.reduceToNat, Nat.reduceLT, Nat.reduceAdd, Nat.reduceSub, Nat.reduceMul, Nat.reduceEqDiff, Nat.reduceLeDiff, Nat.reduceBEq, reduceIte, reduceCtorEq]) ?_
    rintro sv post ⟨rfl, rfl⟩
    by_cases hm : mayV m s = 0
    · rw [hm]
      simp (maxSteps := 4000000) only [push_cast, Int.reduceEq, Int.reduceBNe, Int.reduceBEq, Int.reduceAdd, Int.reduceSub, Int.reduceMul, Int.reduceNeg, Int.reduceLT, Int.reduceLE, Int.reduceToNat, Nat.reduceLT, Nat.reduceAdd, Nat.reduceSub, Nat.reduceMul, Nat.reduceEqDiff, Nat.reduceLeDiff, Nat.reduceBEq, reduceIte, reduceCtorEq]
      refine call_w (num_c 0) [] (by simp (maxSteps := 4000000) only [push_cast, Int.reduceEq, Int.reduceBNe, Int.reduceBEq, Int.reduceAdd, Int.reduceSub, Int.reduceMul, Int.reduceNeg, Int.reduceLT, Int.reduceLE, Int.reduceToNat, Nat.reduceLT, Nat.reduceAdd, Nat.reduceSub, Nat.reduceMul, Nat.reduceEqDiff, Nat.reduceLeDiff, Nat.reduceBEq, reduceIte, reduceCtorEq]) ?_
      rintro sv post ⟨rfl, rfl⟩
      simp (maxSteps := 4000000) only [push_cast, Int.reduceEq, Int.reduceBNe, Int.reduceBEq, Int.reduceAdd, Int.reduceSub, Int.reduceMul, Int.reduceNeg, Int.reduceLT, Int.reduceLE, Int.reduceToNat, Nat.reduceLT, Nat.reduceAdd, Nat.reduceSub, Nat.reduceMul, Nat.reduceEqDiff, Nat.reduceLeDiff, Nat.reduceBEq, reduceIte, reduceCtorEq]
      refine call_w (num_c 0) [] (by simp (maxSteps := 4000000) only [push_cast, Int.reduceEq, Int.reduceBNe, Int.reduceBEq, Int.reduceAdd, Int.reduceSub, Int.reduceMul, Int.reduceNeg, Int.reduceLT, Int.reduceLE, Int.reduceToNat, Nat.reduceLT, Nat.reduceAdd, Nat.reduceSub, Nat.reduceMul, Nat.reduceEqDiff, Nat.reduceLeDiff, Nat.reduceBEq, reduceIte, reduceCtorEq]) ?_
      rintro sv post ⟨rfl, rfl⟩
      simp (maxSteps := 4000000) only [push_cast, Int.reduceEq, Int.reduceBNe, Int.reduceBEq, Int.reduceAdd, Int.reduceSub, Int.reduceMul, Int.reduceNeg, Int.reduceLT, Int.reduceLE, Int.reduceToNat, Nat.reduceLT, Nat.reduceAdd, Nat.reduceSub, Nat.reduceMul, Nat.reduceEqDiff, Nat.reduceLeDiff, Nat.reduceBEq, reduceIte, reduceCtorEq]
      refine call_w (copyB_c T (by omega)) [] (by simp (maxSteps := 4000000) only [push_cast, Int.reduceEq, Int.reduceBNe, Int.reduceBEq, Int.reduceAdd, Int.reduceSub, Int.reduceMul, Int.reduceNeg, Int.reduceLT, Int.reduceLE, Int.reduceToNat, Nat.reduceLT, Nat.reduceAdd, Nat.reduceSub, Nat.reduceMul, Nat.reduceEqDiff, Nat.reduceLeDiff, Nat.reduceBEq, reduceIte, reduceCtorEq]) ?_
      rintro sv post ⟨rfl, rfl⟩
      simp (maxSteps := 4000000) only [push_cast, Int.reduceEq, Int.reduceBNe, Int.reduceBEq, Int.reduceAdd, Int.reduceSub, Int.reduceMul, Int.reduceNeg, Int.reduceLT, Int.reduceLE, Int.reduceToNat, Nat.reduceLT, Nat.reduceAdd, Nat.reduceSub, Nat.reduceMul, Nat.reduceEqDiff, Nat.reduceLeDiff, Nat.reduceBEq, reduceIte, reduceCtorEq]
      have hw : writesV m s T = wr m s T 0 := by unfold writesV; rw [if_pos ⟨hm, by omega⟩]
      rw [hw]
      have e0 := newSt_ok false true hm
      have e1 := newSt_ok true false hm
      refine CodeOK.sub (Sub.tokHp 2 0 rfl rfl) ?_
      simp (maxSteps := 4000000) only [push_cast, Int.reduceEq, Int.reduceBNe, Int.reduceBEq, Int.reduceAdd, Int.reduceSub, Int.reduceMul, Int.reduceNeg, Int.reduceLT, Int.reduceLE, Int.reduceToNat, Nat.reduceLT, Nat.reduceAdd, Nat.reduceSub, Nat.reduceMul, Nat.reduceEqDiff, Nat.reduceLeDiff, Nat.reduceBEq, reduceIte, reduceCtorEq]
      refine fold_ok (counterS [] 0) [2, 5] (by simp (maxSteps := 4000000) only [push_cast, Int.reduceEq, Int.reduceBNe, Int.reduceBEq, Int.reduceAdd, Int.reduceSub, Int.reduceMul, Int.reduceNeg, Int.reduceLT, Int.reduceLE, Int.reduceToNat, Nat.reduceLT, Nat.reduceAdd, Nat.reduceSub, Nat.reduceMul, Nat.reduceEqDiff, Nat.reduceLeDiff, Nat.reduceBEq, reduceIte, reduceCtorEq, counterS, FoldW, SS.lt]) rfl fun b => ?_
      simp (maxSteps := 4000000) only [push_cast, Int.reduceEq, Int.reduceBNe, Int.reduceBEq, Int.reduceAdd, Int.reduceSub, Int.reduceMul, Int.reduceNeg, Int.reduceLT, Int.reduceLE, Int.reduceToNat, Nat.reduceLT, Nat.reduceAdd, Nat.reduceSub, Nat.reduceMul, Nat.reduceEqDiff, Nat.reduceLeDiff, Nat.reduceBEq, reduceIte, reduceCtorEq, SS.fold, SS.rawAll, rawL, rawV, rawHp, hpDel, tkDelL, rsDel]
      refine fold_ok (counterRS T 0 0) [4] (by simp (maxSteps := 4000000) only [push_cast, Int.reduceEq, Int.reduceBNe, Int.reduceBEq, Int.reduceAdd, Int.reduceSub, Int.reduceMul, Int.reduceNeg, Int.reduceLT, Int.reduceLE, Int.reduceToNat, Nat.reduceLT, Nat.reduceAdd, Nat.reduceSub, Nat.reduceMul, Nat.reduceEqDiff, Nat.reduceLeDiff, Nat.reduceBEq, reduceIte, reduceCtorEq, counterRS, FoldW, SS.lt]) rfl fun b2 => ?_
      simp (maxSteps := 4000000) only [push_cast, Int.reduceEq, Int.reduceBNe, Int.reduceBEq, Int.reduceAdd, Int.reduceSub, Int.reduceMul, Int.reduceNeg, Int.reduceLT, Int.reduceLE, Int.reduceToNat, Nat.reduceLT, Nat.reduceAdd, Nat.reduceSub, Nat.reduceMul, Nat.reduceEqDiff, Nat.reduceLeDiff, Nat.reduceBEq, reduceIte, reduceCtorEq, SS.fold, SS.rawAll, rawL, rawV, rawHp, hpDel, tkDelL, rsDel]
      refine loop_ok (ι := {q : Nat × St × (List Int × Int) // q.1 ≤ T.length ∧ Counts q.2.1 q.2.2 T q.1 ∧ q.2.1.m = m ∧ q.2.1.s = s})
        (fun q => ⟨[.i .i64 m, .i .i64 s, .ints .u8 .old T, .i .i64 n, .any, .any, .any, .any, .any, .ints .i64 .new (wr m s T 0), .any, .ptr 0 0, .any, .ptr 1 0, .any, .raw (.pointer (some ⟨b, 0, none⟩)), .raw (.pointer (some ⟨b2, 0, none⟩)), .i .i64 q.1.1] ++ List.replicate 138 .any, [(0, 26, q.1.2.1.cells .old .old .old), (1, 26, (newSt true false m s).cells .old .old .old)], [], [(2, (counterS q.1.2.2.1 q.1.2.2.2).res b), (3, (counterRS T 0 0).res b2)], 4, 0, []⟩)
        (fun q => T.length - q.1.1) ⟨(0, newSt false true m s, ([], 0)), by simp, new_counts T hm, by rw [e0], by rw [e0]⟩ ?_ ?_
      · refine Sub.w [0, 1, 6, 7] ?_
        simp (maxSteps := 4000000) only [push_cast, Int.reduceEq, Int.reduceBNe, Int.reduceBEq, Int.reduceAdd, Int.reduceSub, Int.reduceMul, Int.reduceNeg, Int.reduceLT, Int.reduceLE, Int.reduceToNat, Nat.reduceLT, Nat.reduceAdd, Nat.reduceSub, Nat.reduceMul, Nat.reduceEqDiff, Nat.reduceLeDiff, Nat.reduceBEq, reduceIte, reduceCtorEq, e0, e1, St.cells]
      · rintro ⟨⟨i, x, g⟩, hi, hx, hxm, hxs⟩
        simp only at hi hx hxm hxs
        refine evCode_sound Γok _ _ _ ?_
        simp (maxSteps := 4000000) only [push_cast, Int.reduceEq, Int.reduceBNe, Int.reduceBEq, Int.reduceAdd, Int.reduceSub, Int.reduceMul, Int.reduceNeg, Int.reduceLT, Int.reduceLE, Int.reduceToNat, Nat.reduceLT, Nat.reduceAdd, Nat.reduceSub, Nat.reduceMul, Nat.reduceEqDiff, Nat.reduceLeDiff, Nat.reduceBEq, reduceIte, reduceCtorEq, St.cells, rg11]
        have hi4 : (T.take i).length ≤ 1048576 := by simp; omega
        have hrm := hx.holds.rm b hi4
        refine ⟨fun h1 => ?_, fun h1 => ?_⟩
        · have hi3 : i < T.length := by omega
          refine (region_plan rfl Γok mixed (.pure 0 (.pure 1 (.pure 2 (.pure 3 (.pure 4 (.pure 5 (.pure 6 (.eff (.cons 7 [] (.pure 8 (.pure 9 (.pure 10 (.eff (.cons 11 [] .done .nil))))) .nil))))))))) 156 rfl (by kernel_rfl) ?_)
          simp (maxSteps := 4000000) only [push_cast, Int.reduceEq, Int.reduceBNe, Int.reduceBEq, Int.reduceAdd, Int.reduceSub, Int.reduceMul, Int.reduceNeg, Int.reduceLT, Int.reduceLE, Int.reduceToNat, Nat.reduceLT, Nat.reduceAdd, Nat.reduceSub, Nat.reduceMul, Nat.reduceEqDiff, Nat.reduceLeDiff, Nat.reduceBEq, reduceIte, reduceCtorEq, rg11]
          refine ⟨⟨by omega, by omega⟩, ?_⟩
          refine call_w (PutR_c (counterM b) (counterM_wr b) x g trivial hx.holds.fits (T.getD (i : Int).toNat 0) hrm) [2] (by simp (maxSteps := 4000000) only [push_cast, Int.reduceEq, Int.reduceBNe, Int.reduceBEq, Int.reduceAdd, Int.reduceSub, Int.reduceMul, Int.reduceNeg, Int.reduceLT, Int.reduceLE, Int.reduceToNat, Nat.reduceLT, Nat.reduceAdd, Nat.reduceSub, Nat.reduceMul, Nat.reduceEqDiff, Nat.reduceLeDiff, Nat.reduceBEq, reduceIte, reduceCtorEq, St.sv, St.cells, RawM.v, counterM]) ?_
          rintro sv post ⟨rfl, rfl⟩
          obtain ⟨x', g', q1, hx', q2, q3⟩ := count_put b hx hi3 (by omega)
          rw [Int.toNat_natCast, q1]
          simp (maxSteps := 4000000) only [push_cast, Int.reduceEq, Int.reduceBNe, Int.reduceBEq, Int.reduceAdd, Int.reduceSub, Int.reduceMul, Int.reduceNeg, Int.reduceLT, Int.reduceLE, Int.reduceToNat, Nat.reduceLT, Nat.reduceAdd, Nat.reduceSub, Nat.reduceMul, Nat.reduceEqDiff, Nat.reduceLeDiff, Nat.reduceBEq, reduceIte, reduceCtorEq, St.sv, St.cells, rg11]
          refine ⟨⟨(i + 1, x', g'), hi3, hx', q2.trans hxm, q3.trans hxs⟩, by simp only; omega, Sub.w [0, 1, 2, 3] ?_⟩
          simp (maxSteps := 4000000) only [push_cast, Int.reduceEq, Int.reduceBNe, Int.reduceBEq, Int.reduceAdd, Int.reduceSub, Int.reduceMul, Int.reduceNeg, Int.reduceLT, Int.reduceLE, Int.reduceToNat, Nat.reduceLT, Nat.reduceAdd, Nat.reduceSub, Nat.reduceMul, Nat.reduceEqDiff, Nat.reduceLeDiff, Nat.reduceBEq, reduceIte, reduceCtorEq, St.cells, counterM]
          exact (wrap64 (n := (i : Int) + 1) (by omega) (by omega)).symm
        · have hie : i = T.length := by omega
          subst hie
          obtain ⟨x', n', q1, q2⟩ := count_close b hx (by omega)
          refine call_w (CloseR_c (counterM b) (counterM_wr b) x g trivial hx.holds.fits (by omega)) [2] (by simp (maxSteps := 4000000) only [push_cast, Int.reduceEq, Int.reduceBNe, Int.reduceBEq, Int.reduceAdd, Int.reduceSub, Int.reduceMul, Int.reduceNeg, Int.reduceLT, Int.reduceLE, Int.reduceToNat, Nat.reduceLT, Nat.reduceAdd, Nat.reduceSub, Nat.reduceMul, Nat.reduceEqDiff, Nat.reduceLeDiff, Nat.reduceBEq, reduceIte, reduceCtorEq, St.sv, St.cells, RawM.v, counterM]) ?_
          rintro sv post ⟨rfl, rfl⟩
          rw [q1]
          simp (maxSteps := 4000000) only [push_cast, Int.reduceEq, Int.reduceBNe, Int.reduceBEq, Int.reduceAdd, Int.reduceSub, Int.reduceMul, Int.reduceNeg, Int.reduceLT, Int.reduceLE, Int.reduceToNat, Nat.reduceLT, Nat.reduceAdd, Nat.reduceSub, Nat.reduceMul, Nat.reduceEqDiff, Nat.reduceLeDiff, Nat.reduceBEq, reduceIte, reduceCtorEq, St.sv, St.cells, rg11]
          obtain ⟨d1, d2, d3⟩ := mod4_rng n
          rw [d3, show (n.tmod 4000 + 4000).tmod 4000 = mod4 n from rfl]
          rw [hxm, hxs] at q2
          refine loop_ok (ι := {q : Nat × St × (Int × Int) // (q.1 : Int) ≤ mod4 n ∧ RCounts q.2.1 q.2.2 T q.1 ∧ q.2.1.m = m ∧ q.2.1.s = s})
            (fun q => ⟨[.i .i64 m, .i .i64 s, .ints .u8 .old T, .i .i64 (mod4 n), .any, .any, .any, .any, .any, .ints .i64 .new (wr m s T 0), .any, .any, .any, .ptr 0 0, .any, .raw (.pointer (some ⟨b, 0, none⟩)), .raw (.pointer (some ⟨b2, 0, none⟩)), .any, .i .i64 q.1.1] ++ List.replicate 137 .any, [(0, 26, q.1.2.1.cells .old .old .old)], [], [(1, (counterS T n').res b), (2, (counterRS T q.1.2.2.1 q.1.2.2.2).res b2)], 3, 0, []⟩)
            (fun q => (mod4 n).toNat - q.1.1) ⟨(0, newSt true false m s, (0, 0)), d1, new_rcounts T hm, by rw [e1], by rw [e1]⟩ ?_ ?_
          · refine Sub.w [1, 2, 3] ?_
            simp (maxSteps := 4000000) only [push_cast, Int.reduceEq, Int.reduceBNe, Int.reduceBEq, Int.reduceAdd, Int.reduceSub, Int.reduceMul, Int.reduceNeg, Int.reduceLT, Int.reduceLE, Int.reduceToNat, Nat.reduceLT, Nat.reduceAdd, Nat.reduceSub, Nat.reduceMul, Nat.reduceEqDiff, Nat.reduceLeDiff, Nat.reduceBEq, reduceIte, reduceCtorEq, e0, e1, St.cells, counterM]
          · rintro ⟨⟨i, y, p, k⟩, hi, hy, hym, hys⟩
            simp only at hi hy hym hys
            refine evCode_sound Γok _ _ _ ?_
            simp (maxSteps := 4000000) only [push_cast, Int.reduceEq, Int.reduceBNe, Int.reduceBEq, Int.reduceAdd, Int.reduceSub, Int.reduceMul, Int.reduceNeg, Int.reduceLT, Int.reduceLE, Int.reduceToNat, Nat.reduceLT, Nat.reduceAdd, Nat.reduceSub, Nat.reduceMul, Nat.reduceEqDiff, Nat.reduceLeDiff, Nat.reduceBEq, reduceIte, reduceCtorEq, St.cells, rg11]
            refine ⟨fun h1 => ?_, fun h1 => ?_⟩
            · obtain ⟨y', g', c, e, r1, hy', r2, r3, -⟩ := rcount_get T b2 hy (by omega) (by omega)
              refine call_w (GetR_c (counterRM T b2) (counterRM_rd T b2 (by omega)) y (p, k) ⟨hy.g0, hy.g1⟩ hy.fits) [2] (by simp (maxSteps := 4000000) only [push_cast, Int.reduceEq, Int.reduceBNe, Int.reduceBEq, Int.reduceAdd, Int.reduceSub, Int.reduceMul, Int.reduceNeg, Int.reduceLT, Int.reduceLE, Int.reduceToNat, Nat.reduceLT, Nat.reduceAdd, Nat.reduceSub, Nat.reduceMul, Nat.reduceEqDiff, Nat.reduceLeDiff, Nat.reduceBEq, reduceIte, reduceCtorEq, St.sv, St.cells, RawM.v, counterRM]) ?_
              rintro sv post ⟨rfl, rfl⟩
              rw [r1]
              simp (maxSteps := 4000000) only [push_cast, Int.reduceEq, Int.reduceBNe, Int.reduceBEq, Int.reduceAdd, Int.reduceSub, Int.reduceMul, Int.reduceNeg, Int.reduceLT, Int.reduceLE, Int.reduceToNat, Nat.reduceLT, Nat.reduceAdd, Nat.reduceSub, Nat.reduceMul, Nat.reduceEqDiff, Nat.reduceLeDiff, Nat.reduceBEq, reduceIte, reduceCtorEq, St.sv, St.cells, rg11]
              refine ⟨⟨(i + 1, y', g'), by simp only; omega, hy', r2.trans hym, r3.trans hys⟩, by simp only; omega, Sub.w [0, 1, 2] ?_⟩
              simp (maxSteps := 4000000) only [push_cast, Int.reduceEq, Int.reduceBNe, Int.reduceBEq, Int.reduceAdd, Int.reduceSub, Int.reduceMul, Int.reduceNeg, Int.reduceLT, Int.reduceLE, Int.reduceToNat, Nat.reduceLT, Nat.reduceAdd, Nat.reduceSub, Nat.reduceMul, Nat.reduceEqDiff, Nat.reduceLeDiff, Nat.reduceBEq, reduceIte, reduceCtorEq, St.cells, counterRM]
              exact (wrap64 (n := (i : Int) + 1) (by omega) (by omega)).symm
            · have hie : (i : Int) = mod4 n := by omega
              have hre : readsE m s (mod4 n) T.length = 0 := by unfold readsE; rw [if_pos hm, if_neg (by omega)]
              have hrv : readsV m s (mod4 n) T.length = k := by
                unfold readsV rdG
                rw [if_pos hre, ← hie]
                have hu : uV m s = askV y.m y.s := by rw [hym, hys]; rfl
                rw [hu]
                rcases Nat.lt_or_ge T.length i with h | h
                · obtain ⟨_, _, h3⟩ := hy.off h
                  rw [if_pos (by omega), if_pos (by omega)]
                  exact h3.symm
                · obtain ⟨_, _, _, _, h3⟩ := hy.on h
                  rw [if_neg (by omega), if_neg (by omega), Int.add_zero]
                  exact h3.symm
              refine call_w (reads_c m s (mod4 n) T.length) [] (by simp (maxSteps := 4000000) only [push_cast, Int.reduceEq, Int.reduceBNe, Int.reduceBEq, Int.reduceAdd, Int.reduceSub, Int.reduceMul, Int.reduceNeg, Int.reduceLT, Int.reduceLE, Int.reduceToNat, Nat.reduceLT, Nat.reduceAdd, Nat.reduceSub, Nat.reduceMul, Nat.reduceEqDiff, Nat.reduceLeDiff, Nat.reduceBEq, reduceIte, reduceCtorEq]) ?_
              rintro sv post ⟨rfl, rfl⟩
              rw [hre, hrv]
              simp (maxSteps := 4000000) only [push_cast, Int.reduceEq, Int.reduceBNe, Int.reduceBEq, Int.reduceAdd, Int.reduceSub, Int.reduceMul, Int.reduceNeg, Int.reduceLT, Int.reduceLE, Int.reduceToNat, Nat.reduceLT, Nat.reduceAdd, Nat.reduceSub, Nat.reduceMul, Nat.reduceEqDiff, Nat.reduceLeDiff, Nat.reduceBEq, reduceIte, reduceCtorEq]
              refine unfold_ok (root := b) 1 (counterS T n') [15] (by simp) (by simp (maxSteps := 4000000) only [push_cast, Int.reduceEq, Int.reduceBNe, Int.reduceBEq, Int.reduceAdd, Int.reduceSub, Int.reduceMul, Int.reduceNeg, Int.reduceLT, Int.reduceLE, Int.reduceToNat, Nat.reduceLT, Nat.reduceAdd, Nat.reduceSub, Nat.reduceMul, Nat.reduceEqDiff, Nat.reduceLeDiff, Nat.reduceBEq, reduceIte, reduceCtorEq, counterS, SS.lt]) (by simp (maxSteps := 4000000) only [push_cast, Int.reduceEq, Int.reduceBNe, Int.reduceBEq, Int.reduceAdd, Int.reduceSub, Int.reduceMul, Int.reduceNeg, Int.reduceLT, Int.reduceLE, Int.reduceToNat, Nat.reduceLT, Nat.reduceAdd, Nat.reduceSub, Nat.reduceMul, Nat.reduceEqDiff, Nat.reduceLeDiff, Nat.reduceBEq, reduceIte, reduceCtorEq]) ?_
              simp (maxSteps := 4000000) only [push_cast, Int.reduceEq, Int.reduceBNe, Int.reduceBEq, Int.reduceAdd, Int.reduceSub, Int.reduceMul, Int.reduceNeg, Int.reduceLT, Int.reduceLE, Int.reduceToNat, Nat.reduceLT, Nat.reduceAdd, Nat.reduceSub, Nat.reduceMul, Nat.reduceEqDiff, Nat.reduceLeDiff, Nat.reduceBEq, reduceIte, reduceCtorEq, counterS, SS.unfold]
              refine unfold_ok (root := b2) 2 (counterRS T p k) [16] (by simp) (by simp (maxSteps := 4000000) only [push_cast, Int.reduceEq, Int.reduceBNe, Int.reduceBEq, Int.reduceAdd, Int.reduceSub, Int.reduceMul, Int.reduceNeg, Int.reduceLT, Int.reduceLE, Int.reduceToNat, Nat.reduceLT, Nat.reduceAdd, Nat.reduceSub, Nat.reduceMul, Nat.reduceEqDiff, Nat.reduceLeDiff, Nat.reduceBEq, reduceIte, reduceCtorEq, counterRS, SS.lt]) (by simp (maxSteps := 4000000) only [push_cast, Int.reduceEq, Int.reduceBNe, Int.reduceBEq, Int.reduceAdd, Int.reduceSub, Int.reduceMul, Int.reduceNeg, Int.reduceLT, Int.reduceLE, Int.reduceToNat, Nat.reduceLT, Nat.reduceAdd, Nat.reduceSub, Nat.reduceMul, Nat.reduceEqDiff, Nat.reduceLeDiff, Nat.reduceBEq, reduceIte, reduceCtorEq]) ?_
              simp (maxSteps := 4000000) only [push_cast, Int.reduceEq, Int.reduceBNe, Int.reduceBEq, Int.reduceAdd, Int.reduceSub, Int.reduceMul, Int.reduceNeg, Int.reduceLT, Int.reduceLE, Int.reduceToNat, Nat.reduceLT, Nat.reduceAdd, Nat.reduceSub, Nat.reduceMul, Nat.reduceEqDiff, Nat.reduceLeDiff, Nat.reduceBEq, reduceIte, reduceCtorEq, counterRS, SS.unfold]
              refine region_run Γok ?_
              simp (maxSteps := 4000000) only [push_cast, Int.reduceEq, Int.reduceBNe, Int.reduceBEq, Int.reduceAdd, Int.reduceSub, Int.reduceMul, Int.reduceNeg, Int.reduceLT, Int.reduceLE, Int.reduceToNat, Nat.reduceLT, Nat.reduceAdd, Nat.reduceSub, Nat.reduceMul, Nat.reduceEqDiff, Nat.reduceLeDiff, Nat.reduceBEq, reduceIte, reduceCtorEq, q2]
              refine call_w (sameBytes_c T T) [] (by simp (maxSteps := 4000000) only [push_cast, Int.reduceEq, Int.reduceBNe, Int.reduceBEq, Int.reduceAdd, Int.reduceSub, Int.reduceMul, Int.reduceNeg, Int.reduceLT, Int.reduceLE, Int.reduceToNat, Nat.reduceLT, Nat.reduceAdd, Nat.reduceSub, Nat.reduceMul, Nat.reduceEqDiff, Nat.reduceLeDiff, Nat.reduceBEq, reduceIte, reduceCtorEq]) ?_
              rintro sv post ⟨rfl, rfl⟩
              simp (maxSteps := 4000000) only [push_cast, Int.reduceEq, Int.reduceBNe, Int.reduceBEq, Int.reduceAdd, Int.reduceSub, Int.reduceMul, Int.reduceNeg, Int.reduceLT, Int.reduceLE, Int.reduceToNat, Nat.reduceLT, Nat.reduceAdd, Nat.reduceSub, Nat.reduceMul, Nat.reduceEqDiff, Nat.reduceLeDiff, Nat.reduceBEq, reduceIte, reduceCtorEq]
              refine call_w (num_c 0) [] (by simp (maxSteps := 4000000) only [push_cast, Int.reduceEq, Int.reduceBNe, Int.reduceBEq, Int.reduceAdd, Int.reduceSub, Int.reduceMul, Int.reduceNeg, Int.reduceLT, Int.reduceLE, Int.reduceToNat, Nat.reduceLT, Nat.reduceAdd, Nat.reduceSub, Nat.reduceMul, Nat.reduceEqDiff, Nat.reduceLeDiff, Nat.reduceBEq, reduceIte, reduceCtorEq]) ?_
              rintro sv post ⟨rfl, rfl⟩
              simp (maxSteps := 4000000) only [push_cast, Int.reduceEq, Int.reduceBNe, Int.reduceBEq, Int.reduceAdd, Int.reduceSub, Int.reduceMul, Int.reduceNeg, Int.reduceLT, Int.reduceLE, Int.reduceToNat, Nat.reduceLT, Nat.reduceAdd, Nat.reduceSub, Nat.reduceMul, Nat.reduceEqDiff, Nat.reduceLeDiff, Nat.reduceBEq, reduceIte, reduceCtorEq]
              exact Fin.nil rfl (psv := .b true) (by simp (maxSteps := 4000000) only [push_cast, Int.reduceEq, Int.reduceBNe, Int.reduceBEq, Int.reduceAdd, Int.reduceSub, Int.reduceMul, Int.reduceNeg, Int.reduceLT, Int.reduceLE, Int.reduceToNat, Nat.reduceLT, Nat.reduceAdd, Nat.reduceSub, Nat.reduceMul, Nat.reduceEqDiff, Nat.reduceLeDiff, Nat.reduceBEq, reduceIte, reduceCtorEq]) ⟨rfl, rfl⟩
    · simp (maxSteps := 4000000) only [push_cast, Int.reduceEq, Int.reduceBNe, Int.reduceBEq, Int.reduceAdd, Int.reduceSub, Int.reduceMul, Int.reduceNeg, Int.reduceLT, Int.reduceLE, Int.reduceToNat, Nat.reduceLT, Nat.reduceAdd, Nat.reduceSub, Nat.reduceMul, Nat.reduceEqDiff, Nat.reduceLeDiff, Nat.reduceBEq, reduceIte, reduceCtorEq, hm]
      refine call_w (num_c (mayV m s)) [] (by simp (maxSteps := 4000000) only [push_cast, Int.reduceEq, Int.reduceBNe, Int.reduceBEq, Int.reduceAdd, Int.reduceSub, Int.reduceMul, Int.reduceNeg, Int.reduceLT, Int.reduceLE, Int.reduceToNat, Nat.reduceLT, Nat.reduceAdd, Nat.reduceSub, Nat.reduceMul, Nat.reduceEqDiff, Nat.reduceLeDiff, Nat.reduceBEq, reduceIte, reduceCtorEq]) ?_
      rintro sv post ⟨rfl, rfl⟩
      simp (maxSteps := 4000000) only [push_cast, Int.reduceEq, Int.reduceBNe, Int.reduceBEq, Int.reduceAdd, Int.reduceSub, Int.reduceMul, Int.reduceNeg, Int.reduceLT, Int.reduceLE, Int.reduceToNat, Nat.reduceLT, Nat.reduceAdd, Nat.reduceSub, Nat.reduceMul, Nat.reduceEqDiff, Nat.reduceLeDiff, Nat.reduceBEq, reduceIte, reduceCtorEq, hm]
      refine call_w (num_c (mayV m s)) [] (by simp (maxSteps := 4000000) only [push_cast, Int.reduceEq, Int.reduceBNe, Int.reduceBEq, Int.reduceAdd, Int.reduceSub, Int.reduceMul, Int.reduceNeg, Int.reduceLT, Int.reduceLE, Int.reduceToNat, Nat.reduceLT, Nat.reduceAdd, Nat.reduceSub, Nat.reduceMul, Nat.reduceEqDiff, Nat.reduceLeDiff, Nat.reduceBEq, reduceIte, reduceCtorEq]) ?_
      rintro sv post ⟨rfl, rfl⟩
      simp (maxSteps := 4000000) only [push_cast, Int.reduceEq, Int.reduceBNe, Int.reduceBEq, Int.reduceAdd, Int.reduceSub, Int.reduceMul, Int.reduceNeg, Int.reduceLT, Int.reduceLE, Int.reduceToNat, Nat.reduceLT, Nat.reduceAdd, Nat.reduceSub, Nat.reduceMul, Nat.reduceEqDiff, Nat.reduceLeDiff, Nat.reduceBEq, reduceIte, reduceCtorEq, hm]
      refine ⟨?_, fun h => by simp at h⟩
      refine call_w (num_c (mayV m s)) [] (by simp (maxSteps := 4000000) only [push_cast, Int.reduceEq, Int.reduceBNe, Int.reduceBEq, Int.reduceAdd, Int.reduceSub, Int.reduceMul, Int.reduceNeg, Int.reduceLT, Int.reduceLE, Int.reduceToNat, Nat.reduceLT, Nat.reduceAdd, Nat.reduceSub, Nat.reduceMul, Nat.reduceEqDiff, Nat.reduceLeDiff, Nat.reduceBEq, reduceIte, reduceCtorEq]) ?_
      rintro sv post ⟨rfl, rfl⟩
      simp (maxSteps := 4000000) only [push_cast, Int.reduceEq, Int.reduceBNe, Int.reduceBEq, Int.reduceAdd, Int.reduceSub, Int.reduceMul, Int.reduceNeg, Int.reduceLT, Int.reduceLE, Int.reduceToNat, Nat.reduceLT, Nat.reduceAdd, Nat.reduceSub, Nat.reduceMul, Nat.reduceEqDiff, Nat.reduceLeDiff, Nat.reduceBEq, reduceIte, reduceCtorEq, hm]
      have hne : (mayV m s != 0) = true := by simp [hm]
      exact Fin.nil rfl (psv := .b true) (by simp (maxSteps := 4000000) only [push_cast, Int.reduceEq, Int.reduceBNe, Int.reduceBEq, Int.reduceAdd, Int.reduceSub, Int.reduceMul, Int.reduceNeg, Int.reduceLT, Int.reduceLE, Int.reduceToNat, Nat.reduceLT, Nat.reduceAdd, Nat.reduceSub, Nat.reduceMul, Nat.reduceEqDiff, Nat.reduceLeDiff, Nat.reduceBEq, reduceIte, reduceCtorEq, hne]) ⟨rfl, rfl⟩
end Go.Proofs.Ytbhkpefjnomncaa
/- The writes of a text are all of it. -/
namespace Go.Proofs.Ytbhkpefjnomncaa
open Go Go.Eng
set_option maxHeartbeats 4000000
set_option linter.unusedSimpArgs false
set_option linter.unusedVariables false
set_option maxRecDepth 100000

theorem may_zero {m s : Int} (h : mayV m s = 0) : 1 ≤ m ∧ m ≤ 3 ∧ 1 ≤ s ∧ s ≤ 65536 := by
  unfold mayV at h
  split at h
  · omega
  · split at h
    · omega
    · omega

theorem wr_each {m s : Int} (hs : 1 ≤ s) : ∀ (t : List Int) (n : Int), 0 ≤ n → n < s → (m = 1 → n = 0) → ∀ x ∈ wr m s t n, 1 ≤ x ∧ x ≤ s ∧ (m = 1 → x = 1)
  | [], n, h1, h2, h3, x, hx => by
    rw [wr] at hx
    split at hx
    · simp at hx
      subst hx
      refine ⟨by omega, by omega, fun hm => ?_⟩
      have := h3 hm
      omega
    · simp at hx
  | c :: r, n, h1, h2, h3, x, hx => by
    rw [wr] at hx
    split at hx
    · rcases List.mem_cons.1 hx with rfl | hx
      · refine ⟨by omega, by omega, fun hm => ?_⟩
        have := h3 hm
        omega
      · exact wr_each hs r 0 (by omega) (by omega) (fun _ => rfl) x hx
    · rename_i hc
      exact wr_each hs r (n + 1) (by omega) (by omega) (fun hm => absurd (.inl hm) hc) x hx

theorem wr_sum {m s : Int} : ∀ (t : List Int) (n : Int), 0 ≤ n → (wr m s t n).sum = n + t.length
  | [], n, h => by
    rw [wr]
    split
    · simp
    · simp; omega
  | c :: r, n, h => by
    rw [wr]
    split
    · rw [List.sum_cons, wr_sum r 0 (by omega)]; simp; omega
    · rw [wr_sum r (n + 1) (by omega)]; simp; omega

theorem wr_few {s : Int} (hs : 1 ≤ s) : ∀ (t : List Int) (n : Int), 0 ≤ n → n < s → ((wr 3 s t n).length : Int) ≤ ((t.length : Int) + n) / s + 1
  | [], n, h1, h2 => by
    rw [wr]
    have : 0 ≤ (((0 : Nat) : Int) + n) / s := Int.ediv_nonneg (by omega) (by omega)
    split
    · simp at this ⊢; omega
    · simp at this ⊢; omega
  | c :: r, n, h1, h2 => by
    rw [wr]
    split
    · rename_i hc
      have hn : n + 1 = s := by omega
      have ih := wr_few hs r 0 (by omega) (by omega)
      have e : (((c :: r).length : Nat) : Int) + n = ((r.length : Int) + 0) + s * 1 := by simp; omega
      rw [e, Int.add_mul_ediv_left _ _ (by omega), List.length_cons]
      omega
    · rename_i hc
      have ih := wr_few hs r (n + 1) (by omega) (by omega)
      have e : (((c :: r).length : Nat) : Int) + n = (r.length : Int) + (n + 1) := by simp; omega
      rw [e]
      exact ih

theorem sum_take_bounds : ∀ (l : List Int) (i : Nat), (∀ x ∈ l, 1 ≤ x) → 0 ≤ (l.take i).sum ∧ (l.take i).sum ≤ l.sum
  | [], i, h => by simp
  | x :: r, 0, h => by
    have h1 := sum_take_bounds r 0 (fun y hy => h y (List.mem_cons_of_mem _ hy))
    have h2 := h x (by simp)
    simp only [List.take_zero, List.sum_nil, List.sum_cons] at h1 ⊢
    omega
  | x :: r, i + 1, h => by
    have h1 := sum_take_bounds r i (fun y hy => h y (List.mem_cons_of_mem _ hy))
    have h2 := h x (by simp)
    simp only [List.take_succ_cons, List.sum_cons]
    omega


end Go.Proofs.Ytbhkpefjnomncaa
/- StreamFew: few calls. -/
namespace Go.Proofs.Ytbhkpefjnomncaa
open Go Go.Eng
set_option maxHeartbeats 4000000
set_option linter.unusedSimpArgs false
set_option linter.unusedVariables false
set_option maxRecDepth 100000

theorem pcs_few {u x : Int} (h : 1 ≤ u) : pcs u x ≤ x / u + 1 := by
  unfold pcs
  have h1 : x + u - 1 ≤ x + u * 1 := by omega
  have h2 := Int.ediv_le_ediv (show 0 < u by omega) h1
  rw [Int.add_mul_ediv_left _ _ (by omega)] at h2
  exact h2

theorem streamFew_c (text : List Int) (s : Int) : Contract Try.prog 5 nilSS [.ints .u8 .old text, .i .i64 s] (fun sv post => sv = .b true ∧ post = nilSS) := by
  refine contract_ev Γok Try.func5 rfl rfl [22] ?_
  simp (maxSteps := 4000000) only [push_cast, Int.reduceEq, Int.reduceBNe, Int.reduceBEq, Int.reduceAdd, Int.reduceSub, Int.reduceMul, Int.reduceNeg, Int.reduceLT, Int.reduceLE, Int.reduceToNat, Nat.reduceLT, Nat.reduceAdd, Nat.reduceSub, Nat.reduceMul, Nat.reduceEqDiff, Nat.reduceLeDiff, Nat.reduceBEq, reduceIte, reduceCtorEq, Try.f5]
  refine call_w alive11_c [] (by simp (maxSteps := 4000000) only [push_cast, Int.reduceEq, Int.reduceBNe, Int.reduceBEq, Int.reduceAdd, Int.reduceSub, Int.reduceMul, Int.reduceNeg, Int.reduceLT, Int.reduceLE, Int.reduceToNat, Nat.reduceLT, Nat.reduceAdd, Nat.reduceSub, Nat.reduceMul, Nat.reduceEqDiff, Nat.reduceLeDiff, Nat.reduceBEq, reduceIte, reduceCtorEq]) ?_
  rintro sv post ⟨rfl, rfl⟩
  simp (maxSteps := 4000000) only [push_cast, Int.reduceEq, Int.reduceBNe, Int.reduceBEq, Int.reduceAdd, Int.reduceSub, Int.reduceMul, Int.reduceNeg, Int.reduceLT, Int.reduceLE, Int.reduceToNat, Nat.reduceLT, Nat.reduceAdd, Nat.reduceSub, Nat.reduceMul, Nat.reduceEqDiff, Nat.reduceLeDiff, Nat.reduceBEq, reduceIte, reduceCtorEq]
  refine call_w (newS_c _ _ _ _ _ _ _ _ openW_c 3 s) [] (by simp (maxSteps := 4000000) only [push_cast, Int.reduceEq, Int.reduceBNe, Int.reduceBEq, Int.reduceAdd, Int.reduceSub, Int.reduceMul, Int.reduceNeg, Int.reduceLT, Int.reduceLE, Int.reduceToNat, Nat.reduceLT, Nat.reduceAdd, Nat.reduceSub, Nat.reduceMul, Nat.reduceEqDiff, Nat.reduceLeDiff, Nat.reduceBEq, reduceIte, reduceCtorEq, modeV]) ?_
  rintro sv post ⟨rfl, rfl⟩
  simp (maxSteps := 4000000) only [push_cast, Int.reduceEq, Int.reduceBNe, Int.reduceBEq, Int.reduceAdd, Int.reduceSub, Int.reduceMul, Int.reduceNeg, Int.reduceLT, Int.reduceLE, Int.reduceToNat, Nat.reduceLT, Nat.reduceAdd, Nat.reduceSub, Nat.reduceMul, Nat.reduceEqDiff, Nat.reduceLeDiff, Nat.reduceBEq, reduceIte, reduceCtorEq, St.sv, St.cells]
  refine call_w (newS_c _ _ _ _ _ _ _ _ openR_c 3 s) [] (by simp (maxSteps := 4000000) only [push_cast, Int.reduceEq, Int.reduceBNe, Int.reduceBEq, Int.reduceAdd, Int.reduceSub, Int.reduceMul, Int.reduceNeg, Int.reduceLT, Int.reduceLE, Int.reduceToNat, Nat.reduceLT, Nat.reduceAdd, Nat.reduceSub, Nat.reduceMul, Nat.reduceEqDiff, Nat.reduceLeDiff, Nat.reduceBEq, reduceIte, reduceCtorEq, modeV]) ?_
  rintro sv post ⟨rfl, rfl⟩
  simp (maxSteps := 4000000) only [push_cast, Int.reduceEq, Int.reduceBNe, Int.reduceBEq, Int.reduceAdd, Int.reduceSub, Int.reduceMul, Int.reduceNeg, Int.reduceLT, Int.reduceLE, Int.reduceToNat, Nat.reduceLT, Nat.reduceAdd, Nat.reduceSub, Nat.reduceMul, Nat.reduceEqDiff, Nat.reduceLeDiff, Nat.reduceBEq, reduceIte, reduceCtorEq, St.sv, St.cells]
  by_cases hm : mayV 3 s = 0
  case neg =>
    refine call_w (num11_c (mayV 3 s)) [] (by simp (maxSteps := 4000000) only [push_cast, Int.reduceEq, Int.reduceBNe, Int.reduceBEq, Int.reduceAdd, Int.reduceSub, Int.reduceMul, Int.reduceNeg, Int.reduceLT, Int.reduceLE, Int.reduceToNat, Nat.reduceLT, Nat.reduceAdd, Nat.reduceSub, Nat.reduceMul, Nat.reduceEqDiff, Nat.reduceLeDiff, Nat.reduceBEq, reduceIte, reduceCtorEq]) ?_
    rintro sv post ⟨rfl, rfl⟩
    simp (maxSteps := 4000000) only [push_cast, Int.reduceEq, Int.reduceBNe, Int.reduceBEq, Int.reduceAdd, Int.reduceSub, Int.reduceMul, Int.reduceNeg, Int.reduceLT, Int.reduceLE, Int.reduceToNat, Nat.reduceLT, Nat.reduceAdd, Nat.reduceSub, Nat.reduceMul, Nat.reduceEqDiff, Nat.reduceLeDiff, Nat.reduceBEq, reduceIte, reduceCtorEq, hm]
    exact Fin.nil rfl (psv := .b true) (by simp (maxSteps := 4000000) only [push_cast, Int.reduceEq, Int.reduceBNe, Int.reduceBEq, Int.reduceAdd, Int.reduceSub, Int.reduceMul, Int.reduceNeg, Int.reduceLT, Int.reduceLE, Int.reduceToNat, Nat.reduceLT, Nat.reduceAdd, Nat.reduceSub, Nat.reduceMul, Nat.reduceEqDiff, Nat.reduceLeDiff, Nat.reduceBEq, reduceIte, reduceCtorEq]) ⟨rfl, rfl⟩
  rw [hm]
  refine call_w (num11_c 0) [] (by simp (maxSteps := 4000000) only [push_cast, Int.reduceEq, Int.reduceBNe, Int.reduceBEq, Int.reduceAdd, Int.reduceSub, Int.reduceMul, Int.reduceNeg, Int.reduceLT, Int.reduceLE, Int.reduceToNat, Nat.reduceLT, Nat.reduceAdd, Nat.reduceSub, Nat.reduceMul, Nat.reduceEqDiff, Nat.reduceLeDiff, Nat.reduceBEq, reduceIte, reduceCtorEq]) ?_
  rintro sv post ⟨rfl, rfl⟩
  simp (maxSteps := 4000000) only [push_cast, Int.reduceEq, Int.reduceBNe, Int.reduceBEq, Int.reduceAdd, Int.reduceSub, Int.reduceMul, Int.reduceNeg, Int.reduceLT, Int.reduceLE, Int.reduceToNat, Nat.reduceLT, Nat.reduceAdd, Nat.reduceSub, Nat.reduceMul, Nat.reduceEqDiff, Nat.reduceLeDiff, Nat.reduceBEq, reduceIte, reduceCtorEq]
  obtain ⟨T, hT, hT1, hT2⟩ : ∃ T : List Int, T.length ≤ 5000 ∧ (5000 < (text.length : Int) → text.take 5000 = T) ∧ ((text.length : Int) ≤ 5000 → text = T) := by
    by_cases h : text.length ≤ 5000
    · exact ⟨text, h, fun h2 => by omega, fun _ => rfl⟩
    · exact ⟨text.take 5000, by simp; omega, fun _ => rfl, fun h2 => by omega⟩
  have e0 := newSt_ok false true hm
  have e1 := newSt_ok true false hm
  obtain ⟨a1, a2, a3, a4⟩ := may_zero' hm
  refine ⟨fun hlen => ⟨by omega, ?_⟩, fun hlen => ?_⟩
  all_goals
    first
      | rw [hT1 hlen]
      | rw [hT2 hlen]
    clear hT1 hT2 hlen
    refine call_w (copyB_c T (by omega)) [] (by simp (maxSteps := 4000000) only [push_cast, Int.reduceEq, Int.reduceBNe, Int.reduceBEq, Int.reduceAdd, Int.reduceSub, Int.reduceMul, Int.reduceNeg, Int.reduceLT, Int.reduceLE, Int.reduceToNat, Nat.reduceLT, Nat.reduceAdd, Nat.reduceSub, Nat.reduceMul, Nat.reduceEqDiff, Nat.reduceLeDiff, Nat.reduceBEq, reduceIte, reduceCtorEq]) ?_
    rintro sv post ⟨rfl, rfl⟩
    simp (maxSteps := 4000000) only [push_cast, Int.reduceEq, Int.reduceBNe, Int.reduceBEq, Int.reduceAdd, Int.reduceSub, Int.reduceMul, Int.reduceNeg, Int.reduceLT, Int.reduceLE, Int.reduceToNat, Nat.reduceLT, Nat.reduceAdd, Nat.reduceSub, Nat.reduceMul, Nat.reduceEqDiff, Nat.reduceLeDiff, Nat.reduceBEq, reduceIte, reduceCtorEq]
    refine CodeOK.sub (Sub.tokHp 2 0 rfl rfl) ?_
    simp (maxSteps := 4000000) only [push_cast, Int.reduceEq, Int.reduceBNe, Int.reduceBEq, Int.reduceAdd, Int.reduceSub, Int.reduceMul, Int.reduceNeg, Int.reduceLT, Int.reduceLE, Int.reduceToNat, Nat.reduceLT, Nat.reduceAdd, Nat.reduceSub, Nat.reduceMul, Nat.reduceEqDiff, Nat.reduceLeDiff, Nat.reduceBEq, reduceIte, reduceCtorEq]
    refine fold_ok (counterS [] 0) [2, 5] (by simp (maxSteps := 4000000) only [push_cast, Int.reduceEq, Int.reduceBNe, Int.reduceBEq, Int.reduceAdd, Int.reduceSub, Int.reduceMul, Int.reduceNeg, Int.reduceLT, Int.reduceLE, Int.reduceToNat, Nat.reduceLT, Nat.reduceAdd, Nat.reduceSub, Nat.reduceMul, Nat.reduceEqDiff, Nat.reduceLeDiff, Nat.reduceBEq, reduceIte, reduceCtorEq, counterS, FoldW, SS.lt]) rfl fun b => ?_
    simp (maxSteps := 4000000) only [push_cast, Int.reduceEq, Int.reduceBNe, Int.reduceBEq, Int.reduceAdd, Int.reduceSub, Int.reduceMul, Int.reduceNeg, Int.reduceLT, Int.reduceLE, Int.reduceToNat, Nat.reduceLT, Nat.reduceAdd, Nat.reduceSub, Nat.reduceMul, Nat.reduceEqDiff, Nat.reduceLeDiff, Nat.reduceBEq, reduceIte, reduceCtorEq, SS.fold, SS.rawAll, rawL, rawV, rawHp, hpDel, tkDelL, rsDel]
    refine fold_ok (counterRS T 0 0) [4] (by simp (maxSteps := 4000000) only [push_cast, Int.reduceEq, Int.reduceBNe, Int.reduceBEq, Int.reduceAdd, Int.reduceSub, Int.reduceMul, Int.reduceNeg, Int.reduceLT, Int.reduceLE, Int.reduceToNat, Nat.reduceLT, Nat.reduceAdd, Nat.reduceSub, Nat.reduceMul, Nat.reduceEqDiff, Nat.reduceLeDiff, Nat.reduceBEq, reduceIte, reduceCtorEq, counterRS, FoldW, SS.lt]) rfl fun b2 => ?_
    simp (maxSteps := 4000000) only [push_cast, Int.reduceEq, Int.reduceBNe, Int.reduceBEq, Int.reduceAdd, Int.reduceSub, Int.reduceMul, Int.reduceNeg, Int.reduceLT, Int.reduceLE, Int.reduceToNat, Nat.reduceLT, Nat.reduceAdd, Nat.reduceSub, Nat.reduceMul, Nat.reduceEqDiff, Nat.reduceLeDiff, Nat.reduceBEq, reduceIte, reduceCtorEq, SS.fold, SS.rawAll, rawL, rawV, rawHp, hpDel, tkDelL, rsDel]
    refine loop_ok (ι := {q : Nat × (St × (List Int × Int)) × (St × (Int × Int)) // q.1 ≤ T.length ∧ (Counts q.2.1.1 q.2.1.2 T q.1 ∧ q.2.1.1.m = 3 ∧ q.2.1.1.s = s) ∧ RCounts q.2.2.1 q.2.2.2 T q.1 ∧ q.2.2.1.m = 3 ∧ q.2.2.1.s = s})
      (fun q => ⟨[.ints .u8 .old T, .i .i64 s, .any, .any, .any, .ptr 0 0, .any, .ptr 1 0, .any, .raw (.pointer (some ⟨b, 0, none⟩)), .raw (.pointer (some ⟨b2, 0, none⟩)), .any, .i .i64 q.1.1] ++ List.replicate 118 .any, [(0, 26, q.1.2.1.1.cells .old .old .old), (1, 26, q.1.2.2.1.cells .old .old .old)], [], [(2, (counterS q.1.2.1.2.1 q.1.2.1.2.2).res b), (3, (counterRS T q.1.2.2.2.1 q.1.2.2.2.2).res b2)], 4, 0, []⟩)
      (fun q => T.length - q.1.1) ⟨(0, (newSt false true 3 s, ([], 0)), (newSt true false 3 s, (0, 0))), by simp, ⟨new_counts T hm, by rw [e0], by rw [e0]⟩, new_rcounts T hm, by rw [e1], by rw [e1]⟩ ?_ ?_
    · refine Sub.w [0, 1, 6, 7] ?_
      simp (maxSteps := 4000000) only [push_cast, Int.reduceEq, Int.reduceBNe, Int.reduceBEq, Int.reduceAdd, Int.reduceSub, Int.reduceMul, Int.reduceNeg, Int.reduceLT, Int.reduceLE, Int.reduceToNat, Nat.reduceLT, Nat.reduceAdd, Nat.reduceSub, Nat.reduceMul, Nat.reduceEqDiff, Nat.reduceLeDiff, Nat.reduceBEq, reduceIte, reduceCtorEq, e0, e1, St.cells]
    · rintro ⟨⟨i, ⟨x, g⟩, y, p, k⟩, hi, ⟨hx, hxm, hxs⟩, hy, hym, hys⟩
      simp only at hi hx hxm hxs hy hym hys
      refine evCode_sound Γok _ _ _ ?_
      simp (maxSteps := 4000000) only [push_cast, Int.reduceEq, Int.reduceBNe, Int.reduceBEq, Int.reduceAdd, Int.reduceSub, Int.reduceMul, Int.reduceNeg, Int.reduceLT, Int.reduceLE, Int.reduceToNat, Nat.reduceLT, Nat.reduceAdd, Nat.reduceSub, Nat.reduceMul, Nat.reduceEqDiff, Nat.reduceLeDiff, Nat.reduceBEq, reduceIte, reduceCtorEq, St.cells, rg11]
      have hi4 : (T.take i).length ≤ 1048576 := by simp; omega
      have hrm := hx.holds.rm b hi4
      refine ⟨fun h1 => ?_, fun h1 => ?_⟩
      · have hi3 : i < T.length := by omega
        refine (region_plan rfl Γok mixed (.pure 0 (.pure 1 (.pure 2 (.pure 3 (.pure 4 (.pure 5 (.pure 6 (.eff (.cons 7 [] (.pure 8 (.pure 9 (.pure 10 (.eff (.cons 11 [] (.pure 12 .done) .nil))))) .nil))))))))) 131 rfl (by kernel_rfl) ?_)
        simp (maxSteps := 4000000) only [push_cast, Int.reduceEq, Int.reduceBNe, Int.reduceBEq, Int.reduceAdd, Int.reduceSub, Int.reduceMul, Int.reduceNeg, Int.reduceLT, Int.reduceLE, Int.reduceToNat, Nat.reduceLT, Nat.reduceAdd, Nat.reduceSub, Nat.reduceMul, Nat.reduceEqDiff, Nat.reduceLeDiff, Nat.reduceBEq, reduceIte, reduceCtorEq, rg11]
        refine ⟨⟨by omega, by omega⟩, ?_⟩
        refine call_w (PutR_c (counterM b) (counterM_wr b) x g trivial hx.holds.fits (T.getD (i : Int).toNat 0) hrm) [2] (by simp (maxSteps := 4000000) only [push_cast, Int.reduceEq, Int.reduceBNe, Int.reduceBEq, Int.reduceAdd, Int.reduceSub, Int.reduceMul, Int.reduceNeg, Int.reduceLT, Int.reduceLE, Int.reduceToNat, Nat.reduceLT, Nat.reduceAdd, Nat.reduceSub, Nat.reduceMul, Nat.reduceEqDiff, Nat.reduceLeDiff, Nat.reduceBEq, reduceIte, reduceCtorEq, St.sv, St.cells, RawM.v, counterM]) ?_
        rintro sv post ⟨rfl, rfl⟩
        obtain ⟨x', g', q1, hx', q2, q3⟩ := count_put b hx hi3 (by omega)
        rw [Int.toNat_natCast, q1]
        simp (maxSteps := 4000000) only [push_cast, Int.reduceEq, Int.reduceBNe, Int.reduceBEq, Int.reduceAdd, Int.reduceSub, Int.reduceMul, Int.reduceNeg, Int.reduceLT, Int.reduceLE, Int.reduceToNat, Nat.reduceLT, Nat.reduceAdd, Nat.reduceSub, Nat.reduceMul, Nat.reduceEqDiff, Nat.reduceLeDiff, Nat.reduceBEq, reduceIte, reduceCtorEq, St.sv, St.cells, rg11]
        refine call_w (num11_c 0) [] (by simp (maxSteps := 4000000) only [push_cast, Int.reduceEq, Int.reduceBNe, Int.reduceBEq, Int.reduceAdd, Int.reduceSub, Int.reduceMul, Int.reduceNeg, Int.reduceLT, Int.reduceLE, Int.reduceToNat, Nat.reduceLT, Nat.reduceAdd, Nat.reduceSub, Nat.reduceMul, Nat.reduceEqDiff, Nat.reduceLeDiff, Nat.reduceBEq, reduceIte, reduceCtorEq]) ?_
        rintro sv post ⟨rfl, rfl⟩
        simp (maxSteps := 4000000) only [push_cast, Int.reduceEq, Int.reduceBNe, Int.reduceBEq, Int.reduceAdd, Int.reduceSub, Int.reduceMul, Int.reduceNeg, Int.reduceLT, Int.reduceLE, Int.reduceToNat, Nat.reduceLT, Nat.reduceAdd, Nat.reduceSub, Nat.reduceMul, Nat.reduceEqDiff, Nat.reduceLeDiff, Nat.reduceBEq, reduceIte, reduceCtorEq, rg11]
        obtain ⟨y', g2, c, e, r1, hy', r2, r3, r4⟩ := rcount_get T b2 hy (by omega) (by omega)
        obtain ⟨rfl, rfl⟩ := r4 hi3
        refine call_w (GetR_c (counterRM T b2) (counterRM_rd T b2 (by omega)) y (p, k) ⟨hy.g0, hy.g1⟩ hy.fits) [3] (by simp (maxSteps := 4000000) only [push_cast, Int.reduceEq, Int.reduceBNe, Int.reduceBEq, Int.reduceAdd, Int.reduceSub, Int.reduceMul, Int.reduceNeg, Int.reduceLT, Int.reduceLE, Int.reduceToNat, Nat.reduceLT, Nat.reduceAdd, Nat.reduceSub, Nat.reduceMul, Nat.reduceEqDiff, Nat.reduceLeDiff, Nat.reduceBEq, reduceIte, reduceCtorEq, St.sv, St.cells, RawM.v, counterRM]) ?_
        rintro sv post ⟨rfl, rfl⟩
        rw [r1]
        simp (maxSteps := 4000000) only [push_cast, Int.reduceEq, Int.reduceBNe, Int.reduceBEq, Int.reduceAdd, Int.reduceSub, Int.reduceMul, Int.reduceNeg, Int.reduceLT, Int.reduceLE, Int.reduceToNat, Nat.reduceLT, Nat.reduceAdd, Nat.reduceSub, Nat.reduceMul, Nat.reduceEqDiff, Nat.reduceLeDiff, Nat.reduceBEq, reduceIte, reduceCtorEq, St.sv, St.cells, rg11]
        refine call_w (num11_c 0) [] (by simp (maxSteps := 4000000) only [push_cast, Int.reduceEq, Int.reduceBNe, Int.reduceBEq, Int.reduceAdd, Int.reduceSub, Int.reduceMul, Int.reduceNeg, Int.reduceLT, Int.reduceLE, Int.reduceToNat, Nat.reduceLT, Nat.reduceAdd, Nat.reduceSub, Nat.reduceMul, Nat.reduceEqDiff, Nat.reduceLeDiff, Nat.reduceBEq, reduceIte, reduceCtorEq]) ?_
        rintro sv post ⟨rfl, rfl⟩
        simp (maxSteps := 4000000) only [push_cast, Int.reduceEq, Int.reduceBNe, Int.reduceBEq, Int.reduceAdd, Int.reduceSub, Int.reduceMul, Int.reduceNeg, Int.reduceLT, Int.reduceLE, Int.reduceToNat, Nat.reduceLT, Nat.reduceAdd, Nat.reduceSub, Nat.reduceMul, Nat.reduceEqDiff, Nat.reduceLeDiff, Nat.reduceBEq, reduceIte, reduceCtorEq, rg11]
        rw [Int.toNat_natCast]
        refine ⟨⟨by omega, by omega⟩, fun h => absurd rfl h, fun _ => ⟨⟨(i + 1, (x', g'), (y', g2)), hi3, ⟨hx', q2.trans hxm, q3.trans hxs⟩, hy', r2.trans hym, r3.trans hys⟩, by simp only; omega, Sub.w [0, 1, 2, 3] ?_⟩⟩
        simp (maxSteps := 4000000) only [push_cast, Int.reduceEq, Int.reduceBNe, Int.reduceBEq, Int.reduceAdd, Int.reduceSub, Int.reduceMul, Int.reduceNeg, Int.reduceLT, Int.reduceLE, Int.reduceToNat, Nat.reduceLT, Nat.reduceAdd, Nat.reduceSub, Nat.reduceMul, Nat.reduceEqDiff, Nat.reduceLeDiff, Nat.reduceBEq, reduceIte, reduceCtorEq, St.cells, counterM, counterRM]
        exact (wrap64 (n := (i : Int) + 1) (by omega) (by omega)).symm
      · have hie : i = T.length := by omega
        subst hie
        obtain ⟨x', n', q1, q2⟩ := count_close b hx (by omega)
        refine call_w (CloseR_c (counterM b) (counterM_wr b) x g trivial hx.holds.fits (by omega)) [2] (by simp (maxSteps := 4000000) only [push_cast, Int.reduceEq, Int.reduceBNe, Int.reduceBEq, Int.reduceAdd, Int.reduceSub, Int.reduceMul, Int.reduceNeg, Int.reduceLT, Int.reduceLE, Int.reduceToNat, Nat.reduceLT, Nat.reduceAdd, Nat.reduceSub, Nat.reduceMul, Nat.reduceEqDiff, Nat.reduceLeDiff, Nat.reduceBEq, reduceIte, reduceCtorEq, St.sv, St.cells, RawM.v, counterM]) ?_
        rintro sv post ⟨rfl, rfl⟩
        rw [q1]
        simp (maxSteps := 4000000) only [push_cast, Int.reduceEq, Int.reduceBNe, Int.reduceBEq, Int.reduceAdd, Int.reduceSub, Int.reduceMul, Int.reduceNeg, Int.reduceLT, Int.reduceLE, Int.reduceToNat, Nat.reduceLT, Nat.reduceAdd, Nat.reduceSub, Nat.reduceMul, Nat.reduceEqDiff, Nat.reduceLeDiff, Nat.reduceBEq, reduceIte, reduceCtorEq, St.sv, St.cells, rg11]
        refine unfold_ok (root := b) 2 (counterS T n') [9] (by simp [counterM]) (by simp (maxSteps := 4000000) only [push_cast, Int.reduceEq, Int.reduceBNe, Int.reduceBEq, Int.reduceAdd, Int.reduceSub, Int.reduceMul, Int.reduceNeg, Int.reduceLT, Int.reduceLE, Int.reduceToNat, Nat.reduceLT, Nat.reduceAdd, Nat.reduceSub, Nat.reduceMul, Nat.reduceEqDiff, Nat.reduceLeDiff, Nat.reduceBEq, reduceIte, reduceCtorEq, counterS, SS.lt]) (by simp (maxSteps := 4000000) only [push_cast, Int.reduceEq, Int.reduceBNe, Int.reduceBEq, Int.reduceAdd, Int.reduceSub, Int.reduceMul, Int.reduceNeg, Int.reduceLT, Int.reduceLE, Int.reduceToNat, Nat.reduceLT, Nat.reduceAdd, Nat.reduceSub, Nat.reduceMul, Nat.reduceEqDiff, Nat.reduceLeDiff, Nat.reduceBEq, reduceIte, reduceCtorEq]) ?_
        simp (maxSteps := 4000000) only [push_cast, Int.reduceEq, Int.reduceBNe, Int.reduceBEq, Int.reduceAdd, Int.reduceSub, Int.reduceMul, Int.reduceNeg, Int.reduceLT, Int.reduceLE, Int.reduceToNat, Nat.reduceLT, Nat.reduceAdd, Nat.reduceSub, Nat.reduceMul, Nat.reduceEqDiff, Nat.reduceLeDiff, Nat.reduceBEq, reduceIte, reduceCtorEq, counterS, SS.unfold]
        refine unfold_ok (root := b2) 3 (counterRS T p k) [10] (by simp) (by simp (maxSteps := 4000000) only [push_cast, Int.reduceEq, Int.reduceBNe, Int.reduceBEq, Int.reduceAdd, Int.reduceSub, Int.reduceMul, Int.reduceNeg, Int.reduceLT, Int.reduceLE, Int.reduceToNat, Nat.reduceLT, Nat.reduceAdd, Nat.reduceSub, Nat.reduceMul, Nat.reduceEqDiff, Nat.reduceLeDiff, Nat.reduceBEq, reduceIte, reduceCtorEq, counterRS, SS.lt]) (by simp (maxSteps := 4000000) only [push_cast, Int.reduceEq, Int.reduceBNe, Int.reduceBEq, Int.reduceAdd, Int.reduceSub, Int.reduceMul, Int.reduceNeg, Int.reduceLT, Int.reduceLE, Int.reduceToNat, Nat.reduceLT, Nat.reduceAdd, Nat.reduceSub, Nat.reduceMul, Nat.reduceEqDiff, Nat.reduceLeDiff, Nat.reduceBEq, reduceIte, reduceCtorEq]) ?_
        simp (maxSteps := 4000000) only [push_cast, Int.reduceEq, Int.reduceBNe, Int.reduceBEq, Int.reduceAdd, Int.reduceSub, Int.reduceMul, Int.reduceNeg, Int.reduceLT, Int.reduceLE, Int.reduceToNat, Nat.reduceLT, Nat.reduceAdd, Nat.reduceSub, Nat.reduceMul, Nat.reduceEqDiff, Nat.reduceLeDiff, Nat.reduceBEq, reduceIte, reduceCtorEq, counterRS, SS.unfold]
        refine (region_plan rfl Γok mixed (.pure 0 (.eff (.cons 1 [] (.pure 2 (.pure 3 (.pure 4 (.pure 5 (.pure 6 (.pure 7 (.pure 8 (.eff (.cons 9 [] (.pure 10 (.pure 11 (.pure 12 (.pure 13 (.pure 14 (.pure 15 (.pure 16 (.pure 17 (.pure 18 (.pure 19 (.pure 20 (.pure 21 (.pure 22 (.pure 23 (.pure 24 (.pure 25 (.pure 26 (.pure 27 (.pure 28 (.pure 29 (.pure 30 (.pure 31 (.pure 32 (.pure 33 (.pure 34 (.pure 35 .done)))))))))))))))))))))))))) .nil))))))))) .nil))) 131 rfl (by kernel_rfl) ?_)
        simp (maxSteps := 4000000) only [push_cast, Int.reduceEq, Int.reduceBNe, Int.reduceBEq, Int.reduceAdd, Int.reduceSub, Int.reduceMul, Int.reduceNeg, Int.reduceLT, Int.reduceLE, Int.reduceToNat, Nat.reduceLT, Nat.reduceAdd, Nat.reduceSub, Nat.reduceMul, Nat.reduceEqDiff, Nat.reduceLeDiff, Nat.reduceBEq, reduceIte, reduceCtorEq]
        refine call_w (num11_c 0) [] (by simp (maxSteps := 4000000) only [push_cast, Int.reduceEq, Int.reduceBNe, Int.reduceBEq, Int.reduceAdd, Int.reduceSub, Int.reduceMul, Int.reduceNeg, Int.reduceLT, Int.reduceLE, Int.reduceToNat, Nat.reduceLT, Nat.reduceAdd, Nat.reduceSub, Nat.reduceMul, Nat.reduceEqDiff, Nat.reduceLeDiff, Nat.reduceBEq, reduceIte, reduceCtorEq]) ?_
        rintro sv post ⟨rfl, rfl⟩
        simp (maxSteps := 4000000) only [push_cast, Int.reduceEq, Int.reduceBNe, Int.reduceBEq, Int.reduceAdd, Int.reduceSub, Int.reduceMul, Int.reduceNeg, Int.reduceLT, Int.reduceLE, Int.reduceToNat, Nat.reduceLT, Nat.reduceAdd, Nat.reduceSub, Nat.reduceMul, Nat.reduceEqDiff, Nat.reduceLeDiff, Nat.reduceBEq, reduceIte, reduceCtorEq]
        refine call_w (sameBytes_c T T) [] (by simp (maxSteps := 4000000) only [push_cast, Int.reduceEq, Int.reduceBNe, Int.reduceBEq, Int.reduceAdd, Int.reduceSub, Int.reduceMul, Int.reduceNeg, Int.reduceLT, Int.reduceLE, Int.reduceToNat, Nat.reduceLT, Nat.reduceAdd, Nat.reduceSub, Nat.reduceMul, Nat.reduceEqDiff, Nat.reduceLeDiff, Nat.reduceBEq, reduceIte, reduceCtorEq]) ?_
        rintro sv post ⟨rfl, rfl⟩
        simp (maxSteps := 4000000) only [push_cast, Int.reduceEq, Int.reduceBNe, Int.reduceBEq, Int.reduceAdd, Int.reduceSub, Int.reduceMul, Int.reduceNeg, Int.reduceLT, Int.reduceLE, Int.reduceToNat, Nat.reduceLT, Nat.reduceAdd, Nat.reduceSub, Nat.reduceMul, Nat.reduceEqDiff, Nat.reduceLeDiff, Nat.reduceBEq, reduceIte, reduceCtorEq]
        rw [hxm, hxs] at q2
        have htd : (T.length : Int).tdiv s = (T.length : Int) / s := Int.tdiv_eq_ediv_of_nonneg (by omega)
        have hq0 : 0 ≤ (T.length : Int) / s := Int.ediv_nonneg (by omega) (by omega)
        have hq1 : (T.length : Int) / s ≤ T.length := Int.ediv_le_self _ (by omega)
        rw [htd, wrap64 (n := (T.length : Int) / s) (by omega) (by omega), wrap64 (n := (T.length : Int) / s + 1) (by omega) (by omega)]
        have hw := wr_few (s := s) (by omega) T 0 (by omega) (by omega)
        rw [Int.add_zero] at hw
        obtain ⟨_, _, _, _, hk⟩ := hy.on (Nat.le_refl _)
        have hu : askV y.m y.s = s := by rw [hym, hys]; rfl
        rw [hu] at hk
        have hf := pcs_few (u := s) (x := (T.length : Int)) (by omega)
        have b1 : decide (n' ≤ (T.length : Int) / s + 1) = true := by simp; omega
        have b2 : decide (k ≤ (T.length : Int) / s + 1) = true := by
          have hk' : k = pcs s T.length := hk
          simp; omega
        rw [b1, b2]
        exact ⟨by omega, fun _ => by omega, Fin.nil rfl (psv := .b true) (by simp (maxSteps := 4000000) only [push_cast, Int.reduceEq, Int.reduceBNe, Int.reduceBEq, Int.reduceAdd, Int.reduceSub, Int.reduceMul, Int.reduceNeg, Int.reduceLT, Int.reduceLE, Int.reduceToNat, Nat.reduceLT, Nat.reduceAdd, Nat.reduceSub, Nat.reduceMul, Nat.reduceEqDiff, Nat.reduceLeDiff, Nat.reduceBEq, reduceIte, reduceCtorEq]) ⟨rfl, rfl⟩⟩
end Go.Proofs.Ytbhkpefjnomncaa
