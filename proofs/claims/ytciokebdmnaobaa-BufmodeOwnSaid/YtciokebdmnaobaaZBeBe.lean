/- Texts joined, in order: Be. -/
import Derived.Test.YtciokebdmnaobaaZBaCe
/- How many writes and reads a stream over counters makes. -/
namespace Go.Proofs.Ytciokebdmnaobaa
open Go Go.Eng
set_option maxHeartbeats 4000000
set_option linter.unusedSimpArgs false
set_option linter.unusedVariables false

theorem wr_len (m s : Int) : ∀ (t : List Int) (n : Int), (wr m s t n).length ≤ t.length + 1
  | [], n => by rw [wr]; split <;> simp
  | c :: r, n => by
    rw [wr]
    split
    · have := wr_len m s r 0; simp only [List.length_cons]; omega
    · have := wr_len m s r (n + 1); simp only [List.length_cons]; omega

/-- A stream that writes a text onto a counter: the writes that have been made, and those to come. -/
structure Counts (x : St) (g : List Int × Int) (text : List Int) (i : Nat) : Prop where
  holds : Holds x g (text.take i)
  n0 : 0 ≤ g.2
  lt : (x.o.length : Int) < x.s
  cnt : g.2 + ((wr x.m x.s (text.drop i) x.o.length).length : Nat) = ((wr x.m x.s text 0).length : Nat)

theorem new_counts (text : List Int) {m s : Int} (h : mayV m s = 0) : Counts (newSt false true m s) ([], 0) text 0 := by
  have e := newSt_ok false true h
  obtain ⟨a1, a2, a3, a4⟩ := may_zero' h
  refine ⟨by rw [List.take_zero]; exact new_holds h, Int.le_refl _, by rw [e]; simp; omega, by rw [e]; simp⟩

theorem count_put (b : Nat) {x : St} {g : List Int × Int} {text : List Int} {i : Nat} (h : Counts x g text i) (hi : i < text.length) (hl : text.length ≤ 1048576) :
    ∃ x' g', x.Put (counterM b) g (text.getD i 0) = (x', g', 0) ∧ Counts x' g' text (i + 1) ∧ x'.m = x.m ∧ x'.s = x.s := by
  obtain ⟨h, n0, hlt, hcnt⟩ := h
  have hb := h.bErr
  have htake : text.take (i + 1) = text.take i ++ [text.getD i 0] := by
    rw [List.take_succ_eq_append_getElem hi]; simp [List.getD, hi]
  have hwl := wr_len x.m x.s text 0
  obtain ⟨r, w, m, s, o, i0, k, d, en, bad, cl⟩ := x
  obtain ⟨h1, h2, h3, h4, h5, h6, h7⟩ := h
  simp only at h2 h3 h4 h5 h6 h7 hlt hcnt hwl
  subst h2 h3 h5 h6
  obtain ⟨m1, m2, m3, m4, m5, m6, m7⟩ := h1
  simp only at m1 m2 m3
  obtain ⟨a1, a2, a3, a4⟩ := may_zero' m1
  have mk : ∀ (o' : List Int), o'.length ≤ s → (¬ m = 1 ∨ o'.length = 0) → St.May ⟨r, true, m, s, o', [], [], 2, en, bad, false⟩ := fun o' q1 q2 =>
    ⟨m1, q1, q2, by simp, by simp, .inl rfl, .inr (.inr ⟨rfl, rfl, rfl, rfl⟩)⟩
  have hwe : St.wErr ⟨r, true, m, s, o, [], [], d, en, bad, false⟩ = 0 := by simp [St.wErr, h4]
  have hnote : ∀ (y : St), y.noted 0 = y := fun y => by simp [St.noted]
  have hd := wr_drop m s text i hi o.length
  generalize text.getD i 0 = c at htake hd ⊢
  have hwrap : ∀ q : Nat, g.2 + ((q + 1 : Nat) : Int) = ((wr m s text 0).length : Nat) → IntKind.i64.wrap (g.2 + 1) = g.2 + 1 := fun q hq => wrap64 (by omega) (by omega)
  unfold St.Put St.put
  rw [if_neg (by rw [hb]; simp), if_neg (by rw [hwe]; simp)]
  dsimp only
  split
  · rename_i hm
    have ho : o = [] := by
      have : o.length = 0 := by omega
      simpa using this
    subst ho
    rw [counter_putV, hnote]
    rw [if_pos (.inl hm)] at hd
    rw [hd] at hcnt
    simp only [List.length_cons] at hcnt
    have hw := hwrap _ hcnt
    refine ⟨_, _, rfl, ⟨⟨mk [] (by simp; omega) (.inr rfl), rfl, rfl, by simp, rfl, rfl, ?_⟩, ?_, by simp; omega, ?_⟩, rfl, rfl⟩
    · rw [htake, ← h7]; simp
    · dsimp only; rw [if_neg (by simp), hw]; omega
    · dsimp only; rw [if_neg (by simp), hw]; simp only [List.length_nil, Int.natCast_zero]; omega
  · rename_i hm
    rw [if_neg (by omega)]
    unfold St.put1
    dsimp only
    have hol : (o ++ [c]).length = o.length + 1 := by simp
    split
    · rename_i hc
      rw [if_pos (by rw [hol] at hc; omega)] at hd
      rw [hd] at hcnt
      simp only [List.length_cons] at hcnt
      have hw := hwrap _ hcnt
      have hdel : St.deliver (counterM b) ⟨r, true, m, s, o ++ [c], [], [], 2, en, bad, false⟩ g = (⟨r, true, m, s, [], [], [], 2, en, bad, false⟩, (g.1 ++ (o ++ [c]), g.2 + 1), 0) := by
        unfold St.deliver
        dsimp only
        rw [counter_putV, hnote, if_neg (by simp), hw]
        rfl
      rw [hdel]
      refine ⟨_, _, rfl, ⟨⟨mk [] (by simp; omega) (.inr rfl), rfl, rfl, by simp, rfl, rfl, ?_⟩, ?_, by simp; omega, ?_⟩, rfl, rfl⟩
      · rw [htake, ← h7]; simp
      · dsimp only; omega
      · dsimp only; simp only [List.length_nil, Int.natCast_zero]; omega
    · rename_i hc
      rw [if_neg (by rw [hol] at hc; omega)] at hd
      rw [hd] at hcnt
      refine ⟨_, _, rfl, ⟨⟨mk (o ++ [c]) (by rw [hol]; omega) (.inl hm), rfl, rfl, by simp, rfl, rfl, ?_⟩, n0, ?_, ?_⟩, rfl, rfl⟩
      · rw [htake, ← h7]; simp
      · dsimp only; rw [hol] at hc ⊢; omega
      · dsimp only; rw [hol]; exact hcnt

theorem count_close (b : Nat) {x : St} {g : List Int × Int} {text : List Int} (h : Counts x g text text.length) (hl : text.length ≤ 1048576) :
    ∃ x' n, x.Close (counterM b) g = (x', (text, n), 0) ∧ n = ((wr x.m x.s text 0).length : Nat) := by
  obtain ⟨h, n0, hlt, hcnt⟩ := h
  have hb := h.bErr
  have hwl := wr_len x.m x.s text 0
  have heq := h.eq
  rw [List.take_length] at heq
  rw [List.drop_length, wr] at hcnt
  unfold St.Close St.deliver
  rw [if_neg (by rw [hb]; simp)]
  dsimp only
  rw [counter_putV, heq]
  refine ⟨_, _, rfl, ?_⟩
  by_cases ho : x.o = []
  · rw [if_pos ho]
    rw [ho] at hcnt
    simp at hcnt
    exact hcnt
  · have hp := List.length_pos_iff.2 ho
    rw [if_neg ho]
    rw [if_pos (by omega)] at hcnt
    simp only [List.length_cons, List.length_nil] at hcnt
    rw [wrap64 (by omega) (by omega), ← hcnt]
    simp

theorem pcs_spec {u x : Int} (h : 1 ≤ u) : x ≤ u * pcs u x ∧ u * pcs u x < x + u := by
  unfold pcs
  have h1 := Int.emod_add_mul_ediv (x + u - 1) u
  have h2 := Int.emod_nonneg (x + u - 1) (show u ≠ 0 by omega)
  have h3 := Int.emod_lt_of_pos (x + u - 1) (show 0 < u by omega)
  omega
theorem pcs_uniq {u x k : Int} (h : 1 ≤ u) (h1 : x ≤ u * k) (h2 : u * k < x + u) : pcs u x = k := by
  obtain ⟨q1, q2⟩ := pcs_spec (x := x) h
  have a : pcs u x - k < 1 := by
    refine Int.lt_of_mul_lt_mul_left (a := u) ?_ (by omega)
    rw [Int.mul_sub]; omega
  have b : k - pcs u x < 1 := by
    refine Int.lt_of_mul_lt_mul_left (a := u) ?_ (by omega)
    rw [Int.mul_sub]; omega
  omega

theorem counterR_some (data : List Int) (b : Nat) (g : Int × Int) (n : Int) (h0 : 0 ≤ g.1) (h1 : g.1 ≤ data.length) (hn : 0 ≤ n) :
    someV (counterRM data b) g n = ((g.1 + (readV data g.1 n).length, IntKind.i64.wrap (g.2 + 1)), readV data g.1 n, 0) := by
  have hl := readV_len data g.1 n h0 h1 hn
  obtain ⟨F, hF⟩ : ∃ F, 8192 = F + 1 := ⟨8191, rfl⟩
  have e0 : someV (counterRM data b) g n = RawM.some (counterRM data b) n (F + 1) g := by unfold someV; rw [hF]
  rw [e0]
  simp only [RawM.some]
  have e : (counterRM data b).rd g n = ((g.1 + (readV data g.1 n).length, IntKind.i64.wrap (g.2 + 1)), readV data g.1 n, 0) := rfl
  rw [e]
  dsimp only
  rw [if_neg (by omega), if_neg (by simp), if_neg (by omega)]
  rfl

/-- A stream that reads a counter's data: where it is behind so many calls. -/
structure RCounts (x : St) (g : Int × Int) (data : List Int) (i : Nat) : Prop where
  may : x.May
  r : x.r = true
  cl : x.cl = false
  d : x.d ≠ 2
  k : x.k = []
  o : x.o = []
  g0 : 0 ≤ g.1
  g1 : g.1 ≤ data.length
  n0 : 0 ≤ g.2
  n1 : g.2 ≤ i
  on : i ≤ data.length → x.en = false ∧ i ≤ g.1.toNat ∧ x.i = (data.take g.1.toNat).drop i ∧ (g.1 ≤ askV x.m x.s * g.2 ∧ (g.1 = data.length ∨ g.1 = askV x.m x.s * g.2)) ∧ g.2 = pcs (askV x.m x.s) i
  off : data.length < i → x.en = true ∧ x.i = [] ∧ g.2 = pcs (askV x.m x.s) data.length + 1

theorem RCounts.bErr {x : St} {g : Int × Int} {data : List Int} {i : Nat} (h : RCounts x g data i) : x.bErr = 0 := by
  unfold St.bErr; rw [if_pos h.may, if_neg (by simp [h.cl])]
theorem RCounts.fits {x : St} {g : Int × Int} {data : List Int} {i : Nat} (h : RCounts x g data i) : x.fits := by
  obtain ⟨b1, b2, b3, b4⟩ := May.bd h.may
  exact ⟨by omega, by omega, by omega⟩

theorem new_rcounts (data : List Int) {m s : Int} (h : mayV m s = 0) : RCounts (newSt true false m s) (0, 0) data 0 := by
  have e := newSt_ok true false h
  obtain ⟨a1, a2⟩ := ask_rng h
  refine ⟨newSt_may true false h, by rw [e], by rw [e], by rw [e]; simp, by rw [e], by rw [e], Int.le_refl _, by simp, Int.le_refl _, by simp, fun _ => ⟨by rw [e], by simp, by rw [e]; simp, ⟨by simp, .inr (by simp)⟩, ?_⟩, fun h => absurd h (by omega)⟩
  rw [e]
  exact (pcs_zero a1).symm

theorem rcount_get (data : List Int) (b : Nat) {x : St} {g : Int × Int} {i : Nat} (h : RCounts x g data i) (hl : data.length ≤ 1048576) (hi : i ≤ 1048576) :
    ∃ x' g' c e, x.Get (counterRM data b) g = (x', g', c, e) ∧ RCounts x' g' data (i + 1) ∧ x'.m = x.m ∧ x'.s = x.s ∧ (i < data.length → c = data.getD i 0 ∧ e = 0) := by
  have hb := h.bErr
  obtain ⟨r, w, m, s, o, iv, k, d, en, bad, cl⟩ := x
  obtain ⟨h1, h2, h3, h4, h5, h6, p0, p1, n0, n1, hon, hoff⟩ := h
  simp only at h2 h3 h4 h5 h6 hon hoff
  subst h2 h3 h5 h6
  obtain ⟨p, n⟩ := g
  simp only at p0 p1 n0 n1 hon hoff
  obtain ⟨b1, b2, b3, b4⟩ := May.bd h1
  simp only at b1 b3
  obtain ⟨u1, u2⟩ := ask_rng b1
  have hnote : ∀ (y : St), y.noted 0 = y := fun y => by simp [St.noted]
  unfold St.Get
  rw [if_neg (by rw [hb]; simp)]
  unfold St.get
  try dsimp only
  rw [if_neg (by simp), if_neg h4, if_neg (by simp)]
  by_cases hlt : i ≤ data.length
  · obtain ⟨rfl, hp, hiv, ⟨hpu0, hpe⟩, hn⟩ := hon hlt
    by_cases hne : iv = []
    · -- a read
      rw [if_neg (by simp [hne])]
      have hip : i = p.toNat := by
        rw [hne] at hiv
        have := congrArg List.length hiv
        simp at this
        omega
      unfold St.fill
      try dsimp only
      simp only [Bool.false_eq_true, if_false]
      have hw : IntKind.i64.wrap (n + 1) = n + 1 := wrap64 (by omega) (by omega)
      have hz : someV (counterRM data b) (p, n) (askV m s) = ((p + (readV data p (askV m s)).length, n + 1), readV data p (askV m s), 0) := by
        rw [counterR_some data b (p, n) _ p0 p1 (by omega)]
        try dsimp only
        rw [hw]
      by_cases hend : i = data.length
      · have hr : readV data p (askV m s) = [] := by unfold readV; rw [List.drop_of_length_le (by omega)]; simp
        have hz2 : someV (counterRM data b) (p, n) (askV m s) = ((p, n + 1), ([] : List Int), (0 : Int)) := by
          rw [hz, hr]; simp; rfl
        rw [hz2]
        try dsimp only
        rw [if_pos (show (0 : Int) = 0 ∧ ([] : List Int) = [] from ⟨rfl, rfl⟩)]
        try dsimp only
        rw [if_pos (by simp)]
        refine ⟨_, _, _, _, rfl, ⟨?_, rfl, rfl, by simp, rfl, rfl, ?_, ?_, ?_, ?_, fun h => absurd h (by omega), fun _ => ⟨rfl, hne, ?_⟩⟩, rfl, rfl, fun h => absurd h (by omega)⟩
        · rw [hne]; exact may_got h1 rfl rfl (by simp) (by simp)
        · (try dsimp only); (try simp); exact p0
        · (try dsimp only); (try simp); exact p1
        · (try dsimp only); omega
        · (try dsimp only); omega
        · dsimp only; rw [hn, hend]
      · have hr : (readV data p (askV m s)).length = min (askV m s).toNat (data.length - i) := by unfold readV; rw [List.length_take, List.length_drop, hip]
        have hrn : readV data p (askV m s) ≠ [] := by intro h0; rw [h0] at hr; simp at hr; omega
        have hseg0 : ∀ q : Nat, q = (readV data p (askV m s)).length → readV data p (askV m s) = (data.take (p + (q : Int)).toNat).drop i := by
          rintro q rfl
          rw [hip, List.drop_take, show (p + ((readV data p (askV m s)).length : Int)).toNat - p.toNat = (readV data p (askV m s)).length by omega, hr, hip]
          unfold readV
          rcases Nat.le_total (askV m s).toNat (data.length - p.toNat) with h | h
          · rw [Nat.min_eq_left h]
          · rw [Nat.min_eq_right h, List.take_of_length_le (by simp; omega), List.take_of_length_le (by simp)]
        have hget : i < data.length → (readV data p (askV m s)).getD 0 0 = data.getD i 0 := by
          intro hid
          unfold readV
          simp only [List.getD_eq_getElem?_getD]
          rw [List.getElem?_take, if_pos (by omega), List.getElem?_drop, hip]
          simp
        generalize readV data p (askV m s) = L at hz hr hrn hseg0 hget
        rw [hz]
        try dsimp only
        rw [if_neg (show ¬ ((0 : Int) = 0 ∧ L = []) from fun h => hrn h.2)]
        try dsimp only
        rw [hnote, if_neg (by simp)]
        have hpu : p = askV m s * n := by
          rcases hpe with hpe | hpe
          · omega
          · exact hpe
        have hmul : askV m s * (n + 1) = p + askV m s := by rw [Int.mul_add, ← hpu]; omega
        have hseg := hseg0 L.length rfl
        refine ⟨_, _, _, _, rfl, ⟨?_, rfl, rfl, by simp, rfl, rfl, ?_, ?_, ?_, ?_, fun hle => ⟨rfl, ?_, ?_, ?_, ?_⟩, fun h => absurd h (by omega)⟩, rfl, rfl, fun hid => ⟨?_, rfl⟩⟩
        · refine may_got h1 rfl rfl ?_ (by simp)
          try dsimp only
          rw [List.length_drop, List.length_append, hne, hr]
          simp
          omega
        · (try dsimp only); omega
        · (try dsimp only); omega
        · (try dsimp only); omega
        · (try dsimp only); omega
        · (try dsimp only); omega
        · try dsimp only
          rw [hne, List.nil_append]
          conv => lhs; rw [hseg]
          rw [List.drop_drop]
        · try dsimp only
          refine ⟨by rw [hmul]; omega, ?_⟩
          by_cases hfull : (askV m s).toNat ≤ data.length - i
          · right; rw [hmul]; omega
          · left; omega
        · try dsimp only
          exact (pcs_uniq u1 (by rw [hmul]; omega) (by rw [hmul]; omega)).symm
        · try dsimp only
          rw [hne, List.nil_append]
          exact hget hid
    · rw [if_pos hne]
      have hlen : iv.length = p.toNat - i := by rw [hiv, List.length_drop, List.length_take]; omega
      have hpos := List.length_pos_iff.2 hne
      obtain ⟨q1, q2⟩ := pcs_spec (u := askV m s) (x := (i : Int)) u1
      rw [← hn] at q1 q2
      refine ⟨_, _, _, _, rfl, ⟨?_, rfl, rfl, by simp, rfl, rfl, p0, p1, n0, ?_, fun hle => ⟨rfl, ?_, ?_, ⟨hpu0, hpe⟩, ?_⟩, fun h => absurd h (by omega)⟩, rfl, rfl, fun hid => ⟨?_, rfl⟩⟩
      · exact may_got h1 rfl rfl (by (try dsimp only); rw [List.length_drop]; omega) (by simp)
      · (try dsimp only); omega
      · (try dsimp only); omega
      · try dsimp only
        rw [hiv, List.drop_drop]
      · try dsimp only
        refine (pcs_uniq u1 ?_ (by omega)).symm
        omega
      · try dsimp only
        rw [hiv]
        simp only [List.getD_eq_getElem?_getD]
        rw [List.getElem?_drop, List.getElem?_take, if_pos (by omega)]
        simp
  · obtain ⟨rfl, rfl, hn⟩ := hoff (by omega)
    rw [if_neg (by simp)]
    unfold St.fill
    simp only [if_true]
    rw [if_pos (by simp)]
    refine ⟨_, _, _, _, rfl, ⟨may_got h1 rfl rfl (by simp) (by simp), rfl, rfl, by simp, rfl, rfl, p0, p1, n0, by dsimp only; omega, fun h => absurd h (by omega), fun _ => ⟨rfl, rfl, hn⟩⟩, rfl, rfl, fun h => absurd h (by omega)⟩
end Go.Proofs.Ytciokebdmnaobaa
