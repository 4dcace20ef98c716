/- Texts joined, in order: Be, Qc. -/
import Derived.Test.YtbhkpefjnomncaaZBaCe
import Derived.Test.YtbhkpefjnomncaaZQaLb
/- How many writes and reads a stream over counters makes. -/
namespace Go.Proofs.Ytbhkpefjnomncaa
open Go Go.Eng
set_option maxHeartbeats 4000000
set_option linter.unusedSimpArgs false
set_option linter.unusedVariables false

theorem wr_len (m s : Int) : ∀ (t : List Int) (n : Int), (wr m s t n).length ≤ t.length + 1
  | [], n => by rw [wr]; split <;> simp
  | c :: r, n => by
    rw [wr]
    split
    · have := wr_len m s r 0; simp only [List.length_cons]; omega
    · have := wr_len m s r (n + 1); simp only [List.length_cons]; omega

/-- A stream that writes a text onto a counter: the writes that have been made, and those to come. -/
structure Counts (x : St) (g : List Int × Int) (text : List Int) (i : Nat) : Prop where
  holds : Holds x g (text.take i)
  n0 : 0 ≤ g.2
  lt : (x.o.length : Int) < x.s
  cnt : g.2 + ((wr x.m x.s (text.drop i) x.o.length).length : Nat) = ((wr x.m x.s text 0).length : Nat)

theorem new_counts (text : List Int) {m s : Int} (h : mayV m s = 0) : Counts (newSt false true m s) ([], 0) text 0 := by
  have e := newSt_ok false true h
  obtain ⟨a1, a2, a3, a4⟩ := may_zero' h
  refine ⟨by rw [List.take_zero]; exact new_holds h, Int.le_refl _, by rw [e]; simp; omega, by rw [e]; simp⟩

theorem count_put (b : Nat) {x : St} {g : List Int × Int} {text : List Int} {i : Nat} (h : Counts x g text i) (hi : i < text.length) (hl : text.length ≤ 1048576) :
    ∃ x' g', x.Put (counterM b) g (text.getD i 0) = (x', g', 0) ∧ Counts x' g' text (i + 1) ∧ x'.m = x.m ∧ x'.s = x.s := by
  obtain ⟨h, n0, hlt, hcnt⟩ := h
  have hb := h.bErr
  have htake : text.take (i + 1) = text.take i ++ [text.getD i 0] := by
    rw [List.take_succ_eq_append_getElem hi]; simp [List.getD, hi]
  have hwl := wr_len x.m x.s text 0
  obtain ⟨r, w, m, s, o, i0, k, d, en, bad, cl⟩ := x
  obtain ⟨h1, h2, h3, h4, h5, h6, h7⟩ := h
  simp only at h2 h3 h4 h5 h6 h7 hlt hcnt hwl
  subst h2 h3 h5 h6
  obtain ⟨m1, m2, m3, m4, m5, m6, m7⟩ := h1
  simp only at m1 m2 m3
  obtain ⟨a1, a2, a3, a4⟩ := may_zero' m1
  have mk : ∀ (o' : List Int), o'.length ≤ s → (¬ m = 1 ∨ o'.length = 0) → St.May ⟨r, true, m, s, o', [], [], 2, en, bad, false⟩ := fun o' q1 q2 =>
    ⟨m1, q1, q2, by simp, by simp, .inl rfl, .inr (.inr ⟨rfl, rfl, rfl, rfl⟩)⟩
  have hwe : St.wErr ⟨r, true, m, s, o, [], [], d, en, bad, false⟩ = 0 := by simp [St.wErr, h4]
  have hnote : ∀ (y : St), y.noted 0 = y := fun y => by simp [St.noted]
  have hd := wr_drop m s text i hi o.length
  generalize text.getD i 0 = c at htake hd ⊢
  have hwrap : ∀ q : Nat, g.2 + ((q + 1 : Nat) : Int) = ((wr m s text 0).length : Nat) → IntKind.i64.wrap (g.2 + 1) = g.2 + 1 := fun q hq => wrap64 (by omega) (by omega)
  unfold St.Put St.put
  rw [if_neg (by rw [hb]; simp), if_neg (by rw [hwe]; simp)]
  dsimp only
  split
  · rename_i hm
    have ho : o = [] := by
      have : o.length = 0 := by omega
      simpa using this
    subst ho
    rw [counter_putV, hnote]
    rw [if_pos (.inl hm)] at hd
    rw [hd] at hcnt
    simp only [List.length_cons] at hcnt
    have hw := hwrap _ hcnt
    refine ⟨_, _, rfl, ⟨⟨mk [] (by simp; omega) (.inr rfl), rfl, rfl, by simp, rfl, rfl, ?_⟩, ?_, by simp; omega, ?_⟩, rfl, rfl⟩
    · rw [htake, ← h7]; simp
    · dsimp only; rw [if_neg (by simp), hw]; omega
    · dsimp only; rw [if_neg (by simp), hw]; simp only [List.length_nil, Int.natCast_zero]; omega
  · rename_i hm
    rw [if_neg (by omega)]
    unfold St.put1
    dsimp only
    have hol : (o ++ [c]).length = o.length + 1 := by simp
    split
    · rename_i hc
      rw [if_pos (by rw [hol] at hc; omega)] at hd
      rw [hd] at hcnt
      simp only [List.length_cons] at hcnt
      have hw := hwrap _ hcnt
      have hdel : St.deliver (counterM b) ⟨r, true, m, s, o ++ [c], [], [], 2, en, bad, false⟩ g = (⟨r, true, m, s, [], [], [], 2, en, bad, false⟩, (g.1 ++ (o ++ [c]), g.2 + 1), 0) := by
        unfold St.deliver
        dsimp only
        rw [counter_putV, hnote, if_neg (by simp), hw]
        rfl
      rw [hdel]
      refine ⟨_, _, rfl, ⟨⟨mk [] (by simp; omega) (.inr rfl), rfl, rfl, by simp, rfl, rfl, ?_⟩, ?_, by simp; omega, ?_⟩, rfl, rfl⟩
      · rw [htake, ← h7]; simp
      · dsimp only; omega
      · dsimp only; simp only [List.length_nil, Int.natCast_zero]; omega
    · rename_i hc
      rw [if_neg (by rw [hol] at hc; omega)] at hd
      rw [hd] at hcnt
      refine ⟨_, _, rfl, ⟨⟨mk (o ++ [c]) (by rw [hol]; omega) (.inl hm), rfl, rfl, by simp, rfl, rfl, ?_⟩, n0, ?_, ?_⟩, rfl, rfl⟩
      · rw [htake, ← h7]; simp
      · dsimp only; rw [hol] at hc ⊢; omega
      · dsimp only; rw [hol]; exact hcnt

theorem count_close (b : Nat) {x : St} {g : List Int × Int} {text : List Int} (h : Counts x g text text.length) (hl : text.length ≤ 1048576) :
    ∃ x' n, x.Close (counterM b) g = (x', (text, n), 0) ∧ n = ((wr x.m x.s text 0).length : Nat) := by
  obtain ⟨h, n0, hlt, hcnt⟩ := h
  have hb := h.bErr
  have hwl := wr_len x.m x.s text 0
  have heq := h.eq
  rw [List.take_length] at heq
  rw [List.drop_length, wr] at hcnt
  unfold St.Close St.deliver
  rw [if_neg (by rw [hb]; simp)]
  dsimp only
  rw [counter_putV, heq]
  refine ⟨_, _, rfl, ?_⟩
  by_cases ho : x.o = []
  · rw [if_pos ho]
    rw [ho] at hcnt
    simp at hcnt
    exact hcnt
  · have hp := List.length_pos_iff.2 ho
    rw [if_neg ho]
    rw [if_pos (by omega)] at hcnt
    simp only [List.length_cons, List.length_nil] at hcnt
    rw [wrap64 (by omega) (by omega), ← hcnt]
    simp

theorem pcs_spec {u x : Int} (h : 1 ≤ u) : x ≤ u * pcs u x ∧ u * pcs u x < x + u := by
  unfold pcs
  have h1 := Int.emod_add_mul_ediv (x + u - 1) u
  have h2 := Int.emod_nonneg (x + u - 1) (show u ≠ 0 by omega)
  have h3 := Int.emod_lt_of_pos (x + u - 1) (show 0 < u by omega)
  omega
theorem pcs_uniq {u x k : Int} (h : 1 ≤ u) (h1 : x ≤ u * k) (h2 : u * k < x + u) : pcs u x = k := by
  obtain ⟨q1, q2⟩ := pcs_spec (x := x) h
  have a : pcs u x - k < 1 := by
    refine Int.lt_of_mul_lt_mul_left (a := u) ?_ (by omega)
    rw [Int.mul_sub]; omega
  have b : k - pcs u x < 1 := by
    refine Int.lt_of_mul_lt_mul_left (a := u) ?_ (by omega)
    rw [Int.mul_sub]; omega
  omega

theorem counterR_some (data : List Int) (b : Nat) (g : Int × Int) (n : Int) (h0 : 0 ≤ g.1) (h1 : g.1 ≤ data.length) (hn : 0 ≤ n) :
    someV (counterRM data b) g n = ((g.1 + (readV data g.1 n).length, IntKind.i64.wrap (g.2 + 1)), readV data g.1 n, 0) := by
  have hl := readV_len data g.1 n h0 h1 hn
  obtain ⟨F, hF⟩ : ∃ F, 8192 = F + 1 := ⟨8191, rfl⟩
  have e0 : someV (counterRM data b) g n = RawM.some (counterRM data b) n (F + 1) g := by unfold someV; rw [hF]
  rw [e0]
  simp only [RawM.some]
  have e : (counterRM data b).rd g n = ((g.1 + (readV data g.1 n).length, IntKind.i64.wrap (g.2 + 1)), readV data g.1 n, 0) := rfl
  rw [e]
  dsimp only
  rw [if_neg (by omega), if_neg (by simp), if_neg (by omega)]
  rfl

/-- A stream that reads a counter's data: where it is behind so many calls. -/
structure RCounts (x : St) (g : Int × Int) (data : List Int) (i : Nat) : Prop where
  may : x.May
  r : x.r = true
  cl : x.cl = false
  d : x.d ≠ 2
  k : x.k = []
  o : x.o = []
  g0 : 0 ≤ g.1
  g1 : g.1 ≤ data.length
  n0 : 0 ≤ g.2
  n1 : g.2 ≤ i
  on : i ≤ data.length → x.en = false ∧ i ≤ g.1.toNat ∧ x.i = (data.take g.1.toNat).drop i ∧ (g.1 ≤ askV x.m x.s * g.2 ∧ (g.1 = data.length ∨ g.1 = askV x.m x.s * g.2)) ∧ g.2 = pcs (askV x.m x.s) i
  off : data.length < i → x.en = true ∧ x.i = [] ∧ g.2 = pcs (askV x.m x.s) data.length + 1

theorem RCounts.bErr {x : St} {g : Int × Int} {data : List Int} {i : Nat} (h : RCounts x g data i) : x.bErr = 0 := by
  unfold St.bErr; rw [if_pos h.may, if_neg (by simp [h.cl])]
theorem RCounts.fits {x : St} {g : Int × Int} {data : List Int} {i : Nat} (h : RCounts x g data i) : x.fits := by
  obtain ⟨b1, b2, b3, b4⟩ := May.bd h.may
  exact ⟨by omega, by omega, by omega⟩

theorem new_rcounts (data : List Int) {m s : Int} (h : mayV m s = 0) : RCounts (newSt true false m s) (0, 0) data 0 := by
  have e := newSt_ok true false h
  obtain ⟨a1, a2⟩ := ask_rng h
  refine ⟨newSt_may true false h, by rw [e], by rw [e], by rw [e]; simp, by rw [e], by rw [e], Int.le_refl _, by simp, Int.le_refl _, by simp, fun _ => ⟨by rw [e], by simp, by rw [e]; simp, ⟨by simp, .inr (by simp)⟩, ?_⟩, fun h => absurd h (by omega)⟩
  rw [e]
  exact (pcs_zero a1).symm

theorem rcount_get (data : List Int) (b : Nat) {x : St} {g : Int × Int} {i : Nat} (h : RCounts x g data i) (hl : data.length ≤ 1048576) (hi : i ≤ 1048576) :
    ∃ x' g' c e, x.Get (counterRM data b) g = (x', g', c, e) ∧ RCounts x' g' data (i + 1) ∧ x'.m = x.m ∧ x'.s = x.s ∧ (i < data.length → c = data.getD i 0 ∧ e = 0) := by
  have hb := h.bErr
  obtain ⟨r, w, m, s, o, iv, k, d, en, bad, cl⟩ := x
  obtain ⟨h1, h2, h3, h4, h5, h6, p0, p1, n0, n1, hon, hoff⟩ := h
  simp only at h2 h3 h4 h5 h6 hon hoff
  subst h2 h3 h5 h6
  obtain ⟨p, n⟩ := g
  simp only at p0 p1 n0 n1 hon hoff
  obtain ⟨b1, b2, b3, b4⟩ := May.bd h1
  simp only at b1 b3
  obtain ⟨u1, u2⟩ := ask_rng b1
  have hnote : ∀ (y : St), y.noted 0 = y := fun y => by simp [St.noted]
  unfold St.Get
  rw [if_neg (by rw [hb]; simp)]
  unfold St.get
  try dsimp only
  rw [if_neg (by simp), if_neg h4, if_neg (by simp)]
  by_cases hlt : i ≤ data.length
  · obtain ⟨rfl, hp, hiv, ⟨hpu0, hpe⟩, hn⟩ := hon hlt
    by_cases hne : iv = []
    · -- a read
      rw [if_neg (by simp [hne])]
      have hip : i = p.toNat := by
        rw [hne] at hiv
        have := congrArg List.length hiv
        simp at this
        omega
      unfold St.fill
      try dsimp only
      simp only [Bool.false_eq_true, if_false]
      have hw : IntKind.i64.wrap (n + 1) = n + 1 := wrap64 (by omega) (by omega)
      have hz : someV (counterRM data b) (p, n) (askV m s) = ((p + (readV data p (askV m s)).length, n + 1), readV data p (askV m s), 0) := by
        rw [counterR_some data b (p, n) _ p0 p1 (by omega)]
        try dsimp only
        rw [hw]
      by_cases hend : i = data.length
      · have hr : readV data p (askV m s) = [] := by unfold readV; rw [List.drop_of_length_le (by omega)]; simp
        have hz2 : someV (counterRM data b) (p, n) (askV m s) = ((p, n + 1), ([] : List Int), (0 : Int)) := by
          rw [hz, hr]; simp; rfl
        rw [hz2]
        try dsimp only
        rw [if_pos (show (0 : Int) = 0 ∧ ([] : List Int) = [] from ⟨rfl, rfl⟩)]
        try dsimp only
        rw [if_pos (by simp)]
        refine ⟨_, _, _, _, rfl, ⟨?_, rfl, rfl, by simp, rfl, rfl, ?_, ?_, ?_, ?_, fun h => absurd h (by omega), fun _ => ⟨rfl, hne, ?_⟩⟩, rfl, rfl, fun h => absurd h (by omega)⟩
        · rw [hne]; exact may_got h1 rfl rfl (by simp) (by simp)
        · (try dsimp only); (try simp); exact p0
        · (try dsimp only); (try simp); exact p1
        · (try dsimp only); omega
        · (try dsimp only); omega
        · dsimp only; rw [hn, hend]
      · have hr : (readV data p (askV m s)).length = min (askV m s).toNat (data.length - i) := by unfold readV; rw [List.length_take, List.length_drop, hip]
        have hrn : readV data p (askV m s) ≠ [] := by intro h0; rw [h0] at hr; simp at hr; omega
        have hseg0 : ∀ q : Nat, q = (readV data p (askV m s)).length → readV data p (askV m s) = (data.take (p + (q : Int)).toNat).drop i := by
          rintro q rfl
          rw [hip, List.drop_take, show (p + ((readV data p (askV m s)).length : Int)).toNat - p.toNat = (readV data p (askV m s)).length by omega, hr, hip]
          unfold readV
          rcases Nat.le_total (askV m s).toNat (data.length - p.toNat) with h | h
          · rw [Nat.min_eq_left h]
          · rw [Nat.min_eq_right h, List.take_of_length_le (by simp; omega), List.take_of_length_le (by simp)]
        have hget : i < data.length → (readV data p (askV m s)).getD 0 0 = data.getD i 0 := by
          intro hid
          unfold readV
          simp only [List.getD_eq_getElem?_getD]
          rw [List.getElem?_take, if_pos (by omega), List.getElem?_drop, hip]
          simp
        generalize readV data p (askV m s) = L at hz hr hrn hseg0 hget
        rw [hz]
        try dsimp only
        rw [if_neg (show ¬ ((0 : Int) = 0 ∧ L = []) from fun h => hrn h.2)]
        try dsimp only
        rw [hnote, if_neg (by simp)]
        have hpu : p = askV m s * n := by
          rcases hpe with hpe | hpe
          · omega
          · exact hpe
        have hmul : askV m s * (n + 1) = p + askV m s := by rw [Int.mul_add, ← hpu]; omega
        have hseg := hseg0 L.length rfl
        refine ⟨_, _, _, _, rfl, ⟨?_, rfl, rfl, by simp, rfl, rfl, ?_, ?_, ?_, ?_, fun hle => ⟨rfl, ?_, ?_, ?_, ?_⟩, fun h => absurd h (by omega)⟩, rfl, rfl, fun hid => ⟨?_, rfl⟩⟩
        · refine may_got h1 rfl rfl ?_ (by simp)
          try dsimp only
          rw [List.length_drop, List.length_append, hne, hr]
          simp
          omega
        · (try dsimp only); omega
        · (try dsimp only); omega
        · (try dsimp only); omega
        · (try dsimp only); omega
        · (try dsimp only); omega
        · try dsimp only
          rw [hne, List.nil_append]
          conv => lhs; rw [hseg]
          rw [List.drop_drop]
        · try dsimp only
          refine ⟨by rw [hmul]; omega, ?_⟩
          by_cases hfull : (askV m s).toNat ≤ data.length - i
          · right; rw [hmul]; omega
          · left; omega
        · try dsimp only
          exact (pcs_uniq u1 (by rw [hmul]; omega) (by rw [hmul]; omega)).symm
        · try dsimp only
          rw [hne, List.nil_append]
          exact hget hid
    · rw [if_pos hne]
      have hlen : iv.length = p.toNat - i := by rw [hiv, List.length_drop, List.length_take]; omega
      have hpos := List.length_pos_iff.2 hne
      obtain ⟨q1, q2⟩ := pcs_spec (u := askV m s) (x := (i : Int)) u1
      rw [← hn] at q1 q2
      refine ⟨_, _, _, _, rfl, ⟨?_, rfl, rfl, by simp, rfl, rfl, p0, p1, n0, ?_, fun hle => ⟨rfl, ?_, ?_, ⟨hpu0, hpe⟩, ?_⟩, fun h => absurd h (by omega)⟩, rfl, rfl, fun hid => ⟨?_, rfl⟩⟩
      · exact may_got h1 rfl rfl (by (try dsimp only); rw [List.length_drop]; omega) (by simp)
      · (try dsimp only); omega
      · (try dsimp only); omega
      · try dsimp only
        rw [hiv, List.drop_drop]
      · try dsimp only
        refine (pcs_uniq u1 ?_ (by omega)).symm
        omega
      · try dsimp only
        rw [hiv]
        simp only [List.getD_eq_getElem?_getD]
        rw [List.getElem?_drop, List.getElem?_take, if_pos (by omega)]
        simp
  · obtain ⟨rfl, rfl, hn⟩ := hoff (by omega)
    rw [if_neg (by simp)]
    unfold St.fill
    simp only [if_true]
    rw [if_pos (by simp)]
    refine ⟨_, _, _, _, rfl, ⟨may_got h1 rfl rfl (by simp) (by simp), rfl, rfl, by simp, rfl, rfl, p0, p1, n0, by dsimp only; omega, fun h => absurd h (by omega), fun _ => ⟨rfl, rfl, hn⟩⟩, rfl, rfl, fun h => absurd h (by omega)⟩
end Go.Proofs.Ytbhkpefjnomncaa
/- LinesBytes: a text that is put is its bytes, put one by one. -/
namespace Go.Proofs.Ytbhkpefjnomncaa
open Go Go.Eng
set_option maxHeartbeats 4000000
set_option linter.unusedSimpArgs false
set_option linter.unusedVariables false
set_option maxRecDepth 100000

theorem counter_deliver (b : Nat) (x : St) (g : List Int × Int) : x.deliver (counterM b) g = x.deliver (counterM 0) g := by
  unfold St.deliver
  rw [counter_putV, counter_putV]
  rfl
theorem counter_put1 (b : Nat) (x : St) (g : List Int × Int) (c : Int) : x.put1 (counterM b) g c = x.put1 (counterM 0) g c := by
  unfold St.put1
  split
  · exact counter_deliver b x g
  · rfl
theorem counter_Put (b : Nat) (x : St) (g : List Int × Int) (c : Int) : x.Put (counterM b) g c = x.Put (counterM 0) g c := by
  unfold St.Put
  split
  · rfl
  · unfold St.put
    split
    · rfl
    · split
      · rw [counter_putV, counter_putV]
        rfl
      · split
        · have h := counter_deliver b { x with d := 2 } g
          dsimp only
          rw [h]
          by_cases hz : (St.deliver (counterM 0) { x with d := 2 } g).2.2 ≠ 0
          · exact (if_pos hz).trans (if_pos hz).symm
          · exact (if_neg hz).trans ((counter_put1 b _ _ c).trans (if_neg hz).symm)
        · exact counter_put1 b _ _ c
theorem Put_d (M : RawM) (x : St) (g : M.σ) (c : Int) (h : (x.Put M g c).2.2 = 0) : (x.Put M g c).1.d = 2 := by
  unfold St.Put at h ⊢
  split
  · rename_i h1; rw [if_pos h1] at h; exact absurd h h1
  · rename_i h1
    rw [if_neg h1] at h
    have hd : ∀ (y : St) (g : M.σ), (y.deliver M g).1.d = y.d := fun y g => rfl
    have h1d : ∀ (y : St) (g : M.σ), (y.put1 M g c).1.d = y.d := fun y g => by unfold St.put1; split <;> rfl
    unfold St.put at h ⊢
    split
    · rename_i h2; rw [if_pos h2] at h; exact absurd h h2
    · split
      · rfl
      · split
        · dsimp only
          split
          · rfl
          · rw [h1d]; rfl
        · rw [h1d]

/-- Byte by byte. -/
def itP (m s : Int) (T : List Int) : Nat → St × (List Int × Int)
  | 0 => (newSt false true m s, ([], 0))
  | i + 1 => (((itP m s T i).1.Put (counterM 0) (itP m s T i).2 (T.getD i 0)).1, ((itP m s T i).1.Put (counterM 0) (itP m s T i).2 (T.getD i 0)).2.1)

structure PB (m s : Int) (T : List Int) (i : Nat) (x : St) (g : List Int × Int) : Prop where
  it : (x, g) = itP m s T i
  c : Counts x g T i
  m : x.m = m
  s : x.s = s
  d : 0 < i → x.d = 2

theorem pb_new {m s : Int} (T : List Int) (h : mayV m s = 0) : PB m s T 0 (newSt false true m s) ([], 0) := by
  have e := newSt_ok false true h
  exact ⟨rfl, new_counts T h, by rw [e], by rw [e], fun h => absurd h (by omega)⟩
theorem pb_put (b : Nat) {m s : Int} {T : List Int} {i : Nat} {x : St} {g : List Int × Int} (h : PB m s T i x g) (hi : i < T.length) (hl : T.length ≤ 1048576) :
    ∃ x' g', x.Put (counterM b) g (T.getD i 0) = (x', g', 0) ∧ PB m s T (i + 1) x' g' := by
  obtain ⟨x', g', q1, q2, q3, q4⟩ := count_put b h.c hi hl
  refine ⟨x', g', q1, ?_, q2, q3.trans h.m, q4.trans h.s, fun _ => ?_⟩
  · rw [counter_Put] at q1
    rw [itP, ← h.it, q1]
  · have := Put_d (counterM b) x g (T.getD i 0) (by rw [q1])
    rw [q1] at this
    exact this
theorem pb_rm (b : Nat) {m s : Int} {T : List Int} {i : Nat} {x : St} {g : List Int × Int} (h : PB m s T i x g) (hl : T.length ≤ 1048576) : x.o.length + 1 ≤ (counterM b).rm g :=
  h.c.holds.rm b (by simp; omega)

theorem lbPut_c (b : Nat) {m s : Int} {T : List Int} (hm : mayV m s = 0) (hT : T.length ≤ 2000) {x : St} {g : List Int × Int} (hx : PB m s T T.length x g) :
    Contract Try.prog 31 (preR ((counterM b).res ([], 0))) [(newSt false true m s).sv .old, (counterM b).v, .ints .u8 .old T]
      (fun sv post => ∃ y h, (y.o = x.o ∧ h.1 = g.1 ∧ y.d = x.d ∧ (m = 1 → h.2 = minI 1 T.length) ∧ (¬ m = 1 → h.2 = g.2)) ∧ isSN (counterM b) (y, h, (T.length : Int), 0) sv post) := by
  have e0 := newSt_ok false true hm
  have hbe : (newSt false true m s).bErr = 0 := (pb_new T hm).c.holds.bErr
  have hm0 : (newSt false true m s).m = m := by rw [e0]
  by_cases hc : T ≠ [] ∧ m = 1
  · obtain ⟨hn, h1⟩ := hc
    have hp := List.length_pos_iff.2 hn
    have hw : (newSt false true m s).wErr = 0 := by rw [e0]; simp [St.wErr]
    have hr : T.length ≤ (counterM b).rm ([], 0) := by show T.length ≤ 70368744177664 - 0; omega
    have hr2 : (newSt false true m s).o.length + 1 ≤ (counterM b).rm ([], 0) := by rw [e0]; show _ ≤ 70368744177664 - 0; simp
    have h := putL1_c (counterM b) (counterM_wr b) (newSt false true m s) ([], 0) trivial T hbe hw (hm0.trans h1) hn (by omega) hr hr2
    have ho : x.o = [] := by
      have := hx.c.holds.may.2.2.1
      rw [hx.m] at this
      have : x.o.length = 0 := by omega
      simpa using this
    have hg : g.1 = T := by
      have := hx.c.holds.eq
      rw [ho, List.append_nil, List.take_length] at this
      exact this
    have hv : (newSt false true m s).wholeV (counterM b) ([], 0) T = ({ newSt false true m s with d := 2 }, (T, 1), (T.length : Int), 0) := by
      unfold St.wholeV
      rw [counter_putV, if_neg hn]
      simp [St.noted]
      rfl
    rw [hv] at h
    refine Contract.mono h fun sv post hs => ⟨_, _, ⟨?_, hg.symm, ?_, fun _ => ?_, fun h => absurd h1 h⟩, hs⟩
    · rw [ho, e0]
    · rw [hx.d hp]
    · unfold minI; dsimp only; split <;> omega
  · have h := putLN_c (counterM b) (counterM_wr b) (newSt false true m s) ([], 0) T hbe (fun hn h => hc ⟨hn, hm0.symm.trans h⟩) (by omega) (fun i y h => PB m s T i y h) (pb_new T hm) (fun i y h hi hy => by
      obtain ⟨y', h', q1, q2⟩ := pb_put b hy hi (by omega)
      exact ⟨trivial, hy.c.holds.fits, by have := hy.c.lt; omega, pb_rm b hy (by omega), y', h', q1, q2⟩)
    refine Contract.mono h ?_
    rintro sv post ⟨y, h, hy, hs⟩
    have he := hx.it.trans hy.it.symm
    obtain ⟨rfl, rfl⟩ := Prod.mk.inj he
    refine ⟨x, g, ⟨rfl, rfl, rfl, fun h1 => ?_, fun _ => rfl⟩, hs⟩
    have hn : T = [] := by
      by_cases hn : T = []
      · exact hn
      · exact absurd ⟨hn, h1⟩ hc
    subst hn
    have := hx.it
    have hg : g = ([], 0) := congrArg Prod.snd this
    rw [hg]
    rfl

theorem linesBytes_c (text : List Int) (m s : Int) : Contract Try.prog 7 nilSS [.ints .u8 .old text, .i .i64 m, .i .i64 s] (fun sv post => sv = .b true ∧ post = nilSS) := by
  refine contract_ev Γok Try.func7 rfl rfl [13, 17] ?_
  simp (maxSteps := 4000000) only [push_cast, Int.reduceEq, Int.reduceBNe, Int.reduceBEq, Int.reduceAdd, Int.reduceSub, Int.reduceMul, Int.reduceNeg, Int.reduceLT, Int.reduceLE, Int.reduceToNat, Nat.reduceLT, Nat.reduceAdd, Nat.reduceSub, Nat.reduceMul, Nat.reduceEqDiff, Nat.reduceLeDiff, Nat.reduceBEq, reduceIte, reduceCtorEq, Try.f7]
  refine call_w alive15_c [] (by simp (maxSteps := 4000000) only [push_cast, Int.reduceEq, Int.reduceBNe, Int.reduceBEq, Int.reduceAdd, Int.reduceSub, Int.reduceMul, Int.reduceNeg, Int.reduceLT, Int.reduceLE, Int.reduceToNat, Nat.reduceLT, Nat.reduceAdd, Nat.reduceSub, Nat.reduceMul, Nat.reduceEqDiff, Nat.reduceLeDiff, Nat.reduceBEq, reduceIte, reduceCtorEq]) ?_
  rintro sv post ⟨rfl, rfl⟩
  simp (maxSteps := 4000000) only [push_cast, Int.reduceEq, Int.reduceBNe, Int.reduceBEq, Int.reduceAdd, Int.reduceSub, Int.reduceMul, Int.reduceNeg, Int.reduceLT, Int.reduceLE, Int.reduceToNat, Nat.reduceLT, Nat.reduceAdd, Nat.reduceSub, Nat.reduceMul, Nat.reduceEqDiff, Nat.reduceLeDiff, Nat.reduceBEq, reduceIte, reduceCtorEq]
  refine call_w (newS_c _ _ _ _ _ _ _ _ openW_c m s) [] (by simp (maxSteps := 4000000) only [push_cast, Int.reduceEq, Int.reduceBNe, Int.reduceBEq, Int.reduceAdd, Int.reduceSub, Int.reduceMul, Int.reduceNeg, Int.reduceLT, Int.reduceLE, Int.reduceToNat, Nat.reduceLT, Nat.reduceAdd, Nat.reduceSub, Nat.reduceMul, Nat.reduceEqDiff, Nat.reduceLeDiff, Nat.reduceBEq, reduceIte, reduceCtorEq, modeV]) ?_
  rintro sv post ⟨rfl, rfl⟩
  simp (maxSteps := 4000000) only [push_cast, Int.reduceEq, Int.reduceBNe, Int.reduceBEq, Int.reduceAdd, Int.reduceSub, Int.reduceMul, Int.reduceNeg, Int.reduceLT, Int.reduceLE, Int.reduceToNat, Nat.reduceLT, Nat.reduceAdd, Nat.reduceSub, Nat.reduceMul, Nat.reduceEqDiff, Nat.reduceLeDiff, Nat.reduceBEq, reduceIte, reduceCtorEq, St.sv, St.cells]
  refine call_w (num15_c (mayV m s)) [] (by simp (maxSteps := 4000000) only [push_cast, Int.reduceEq, Int.reduceBNe, Int.reduceBEq, Int.reduceAdd, Int.reduceSub, Int.reduceMul, Int.reduceNeg, Int.reduceLT, Int.reduceLE, Int.reduceToNat, Nat.reduceLT, Nat.reduceAdd, Nat.reduceSub, Nat.reduceMul, Nat.reduceEqDiff, Nat.reduceLeDiff, Nat.reduceBEq, reduceIte, reduceCtorEq]) ?_
  rintro sv post ⟨rfl, rfl⟩
  by_cases hm : mayV m s = 0
  case neg =>
    simp (maxSteps := 4000000) only [push_cast, Int.reduceEq, Int.reduceBNe, Int.reduceBEq, Int.reduceAdd, Int.reduceSub, Int.reduceMul, Int.reduceNeg, Int.reduceLT, Int.reduceLE, Int.reduceToNat, Nat.reduceLT, Nat.reduceAdd, Nat.reduceSub, Nat.reduceMul, Nat.reduceEqDiff, Nat.reduceLeDiff, Nat.reduceBEq, reduceIte, reduceCtorEq, hm]
    have hne : (mayV m s != 0) = true := by simp [hm]
    exact ⟨Fin.nil rfl (psv := .b true) (by simp (maxSteps := 4000000) only [push_cast, Int.reduceEq, Int.reduceBNe, Int.reduceBEq, Int.reduceAdd, Int.reduceSub, Int.reduceMul, Int.reduceNeg, Int.reduceLT, Int.reduceLE, Int.reduceToNat, Nat.reduceLT, Nat.reduceAdd, Nat.reduceSub, Nat.reduceMul, Nat.reduceEqDiff, Nat.reduceLeDiff, Nat.reduceBEq, reduceIte, reduceCtorEq, hne]) ⟨rfl, rfl⟩, fun h => h.1.elim⟩
  have e0 := newSt_ok false true hm
  rw [hm]
  simp (maxSteps := 4000000) only [push_cast, Int.reduceEq, Int.reduceBNe, Int.reduceBEq, Int.reduceAdd, Int.reduceSub, Int.reduceMul, Int.reduceNeg, Int.reduceLT, Int.reduceLE, Int.reduceToNat, Nat.reduceLT, Nat.reduceAdd, Nat.reduceSub, Nat.reduceMul, Nat.reduceEqDiff, Nat.reduceLeDiff, Nat.reduceBEq, reduceIte, reduceCtorEq]
  refine ⟨fun hp => Fin.nil rfl (psv := .b true) (by simp (maxSteps := 4000000) only [push_cast, Int.reduceEq, Int.reduceBNe, Int.reduceBEq, Int.reduceAdd, Int.reduceSub, Int.reduceMul, Int.reduceNeg, Int.reduceLT, Int.reduceLE, Int.reduceToNat, Nat.reduceLT, Nat.reduceAdd, Nat.reduceSub, Nat.reduceMul, Nat.reduceEqDiff, Nat.reduceLeDiff, Nat.reduceBEq, reduceIte, reduceCtorEq]) ⟨rfl, rfl⟩, fun hp => ?_⟩
  refine CodeOK.sub (Sub.tokHp 1 0 rfl rfl) ?_
  simp (maxSteps := 4000000) only [push_cast, Int.reduceEq, Int.reduceBNe, Int.reduceBEq, Int.reduceAdd, Int.reduceSub, Int.reduceMul, Int.reduceNeg, Int.reduceLT, Int.reduceLE, Int.reduceToNat, Nat.reduceLT, Nat.reduceAdd, Nat.reduceSub, Nat.reduceMul, Nat.reduceEqDiff, Nat.reduceLeDiff, Nat.reduceBEq, reduceIte, reduceCtorEq]
  refine CodeOK.sub (Sub.tokHp 2 0 rfl rfl) ?_
  simp (maxSteps := 4000000) only [push_cast, Int.reduceEq, Int.reduceBNe, Int.reduceBEq, Int.reduceAdd, Int.reduceSub, Int.reduceMul, Int.reduceNeg, Int.reduceLT, Int.reduceLE, Int.reduceToNat, Nat.reduceLT, Nat.reduceAdd, Nat.reduceSub, Nat.reduceMul, Nat.reduceEqDiff, Nat.reduceLeDiff, Nat.reduceBEq, reduceIte, reduceCtorEq]
  refine fold_ok (counterS [] 0) [1, 4] (by simp (maxSteps := 4000000) only [push_cast, Int.reduceEq, Int.reduceBNe, Int.reduceBEq, Int.reduceAdd, Int.reduceSub, Int.reduceMul, Int.reduceNeg, Int.reduceLT, Int.reduceLE, Int.reduceToNat, Nat.reduceLT, Nat.reduceAdd, Nat.reduceSub, Nat.reduceMul, Nat.reduceEqDiff, Nat.reduceLeDiff, Nat.reduceBEq, reduceIte, reduceCtorEq, counterS, FoldW, SS.lt]) rfl fun b => ?_
  simp (maxSteps := 4000000) only [push_cast, Int.reduceEq, Int.reduceBNe, Int.reduceBEq, Int.reduceAdd, Int.reduceSub, Int.reduceMul, Int.reduceNeg, Int.reduceLT, Int.reduceLE, Int.reduceToNat, Nat.reduceLT, Nat.reduceAdd, Nat.reduceSub, Nat.reduceMul, Nat.reduceEqDiff, Nat.reduceLeDiff, Nat.reduceBEq, reduceIte, reduceCtorEq, SS.fold, SS.rawAll, rawL, rawV, rawHp, hpDel, tkDelL, rsDel]
  refine fold_ok (counterS [] 0) [2, 5] (by simp (maxSteps := 4000000) only [push_cast, Int.reduceEq, Int.reduceBNe, Int.reduceBEq, Int.reduceAdd, Int.reduceSub, Int.reduceMul, Int.reduceNeg, Int.reduceLT, Int.reduceLE, Int.reduceToNat, Nat.reduceLT, Nat.reduceAdd, Nat.reduceSub, Nat.reduceMul, Nat.reduceEqDiff, Nat.reduceLeDiff, Nat.reduceBEq, reduceIte, reduceCtorEq, counterS, FoldW, SS.lt]) rfl fun b2 => ?_
  simp (maxSteps := 4000000) only [push_cast, Int.reduceEq, Int.reduceBNe, Int.reduceBEq, Int.reduceAdd, Int.reduceSub, Int.reduceMul, Int.reduceNeg, Int.reduceLT, Int.reduceLE, Int.reduceToNat, Nat.reduceLT, Nat.reduceAdd, Nat.reduceSub, Nat.reduceMul, Nat.reduceEqDiff, Nat.reduceLeDiff, Nat.reduceBEq, reduceIte, reduceCtorEq, SS.fold, SS.rawAll, rawL, rawV, rawHp, hpDel, tkDelL, rsDel]
  refine loop_ok (ι := {q : Nat × St × (List Int × Int) // q.1 ≤ text.length ∧ PB m s text q.1 q.2.1 q.2.2})
    (fun q => ⟨[.ints .u8 .old text, .i .i64 m, .i .i64 s, .any, .any, .any, .any, .ptr 0 0, .any, .raw (.pointer (some ⟨b, 0, none⟩)), .raw (.pointer (some ⟨b2, 0, none⟩)), .ptr 1 0, .i .i64 q.1.1] ++ List.replicate 106 .any, [(0, 26, (newSt false true m s).cells .old .old .old), (1, 26, q.1.2.1.cells .old .old .old)], [], [(2, (counterS q.1.2.2.1 q.1.2.2.2).res b), (3, (counterS [] 0).res b2)], 4, 0, []⟩)
    (fun q => text.length - q.1.1) ⟨(0, newSt false true m s, ([], 0)), Nat.zero_le _, pb_new text hm⟩ ?_ ?_
  · refine Sub.w [0, 3, 6, 7] ?_
    simp (maxSteps := 4000000) only [push_cast, Int.reduceEq, Int.reduceBNe, Int.reduceBEq, Int.reduceAdd, Int.reduceSub, Int.reduceMul, Int.reduceNeg, Int.reduceLT, Int.reduceLE, Int.reduceToNat, Nat.reduceLT, Nat.reduceAdd, Nat.reduceSub, Nat.reduceMul, Nat.reduceEqDiff, Nat.reduceLeDiff, Nat.reduceBEq, reduceIte, reduceCtorEq, e0, St.cells]
  · rintro ⟨⟨i, x, g⟩, hi, hx⟩
    simp only at hi hx
    refine evCode_sound Γok _ _ _ ?_
    simp (maxSteps := 4000000) only [push_cast, Int.reduceEq, Int.reduceBNe, Int.reduceBEq, Int.reduceAdd, Int.reduceSub, Int.reduceMul, Int.reduceNeg, Int.reduceLT, Int.reduceLE, Int.reduceToNat, Nat.reduceLT, Nat.reduceAdd, Nat.reduceSub, Nat.reduceMul, Nat.reduceEqDiff, Nat.reduceLeDiff, Nat.reduceBEq, reduceIte, reduceCtorEq, St.cells, rg11]
    refine ⟨fun h1 => ?_, fun h1 => ?_⟩
    · have hi3 : i < text.length := by omega
      refine (region_plan rfl Γok mixed (.pure 0 (.pure 1 (.pure 2 (.pure 3 (.pure 4 (.pure 5 (.pure 6 (.eff (.cons 7 [] (.pure 8 (.pure 9 (.pure 10 (.eff (.cons 11 [] .done .nil))))) .nil))))))))) 119 rfl (by kernel_rfl) ?_)
      simp (maxSteps := 4000000) only [push_cast, Int.reduceEq, Int.reduceBNe, Int.reduceBEq, Int.reduceAdd, Int.reduceSub, Int.reduceMul, Int.reduceNeg, Int.reduceLT, Int.reduceLE, Int.reduceToNat, Nat.reduceLT, Nat.reduceAdd, Nat.reduceSub, Nat.reduceMul, Nat.reduceEqDiff, Nat.reduceLeDiff, Nat.reduceBEq, reduceIte, reduceCtorEq, rg11]
      refine ⟨⟨by omega, by omega⟩, ?_⟩
      refine call_w (PutR_c (counterM b) (counterM_wr b) x g trivial hx.c.holds.fits (text.getD (i : Int).toNat 0) (pb_rm b hx (by omega))) [2] (by simp (maxSteps := 4000000) only [push_cast, Int.reduceEq, Int.reduceBNe, Int.reduceBEq, Int.reduceAdd, Int.reduceSub, Int.reduceMul, Int.reduceNeg, Int.reduceLT, Int.reduceLE, Int.reduceToNat, Nat.reduceLT, Nat.reduceAdd, Nat.reduceSub, Nat.reduceMul, Nat.reduceEqDiff, Nat.reduceLeDiff, Nat.reduceBEq, reduceIte, reduceCtorEq, St.sv, St.cells, RawM.v, counterM]) ?_
      rintro sv post ⟨rfl, rfl⟩
      obtain ⟨x', g', q1, hx'⟩ := pb_put b hx hi3 (by omega)
      rw [Int.toNat_natCast, q1]
      simp (maxSteps := 4000000) only [push_cast, Int.reduceEq, Int.reduceBNe, Int.reduceBEq, Int.reduceAdd, Int.reduceSub, Int.reduceMul, Int.reduceNeg, Int.reduceLT, Int.reduceLE, Int.reduceToNat, Nat.reduceLT, Nat.reduceAdd, Nat.reduceSub, Nat.reduceMul, Nat.reduceEqDiff, Nat.reduceLeDiff, Nat.reduceBEq, reduceIte, reduceCtorEq, St.sv, St.cells, rg11]
      refine ⟨⟨(i + 1, x', g'), hi3, hx'⟩, by simp only; omega, Sub.w [0, 1, 2, 3] ?_⟩
      simp (maxSteps := 4000000) only [push_cast, Int.reduceEq, Int.reduceBNe, Int.reduceBEq, Int.reduceAdd, Int.reduceSub, Int.reduceMul, Int.reduceNeg, Int.reduceLT, Int.reduceLE, Int.reduceToNat, Nat.reduceLT, Nat.reduceAdd, Nat.reduceSub, Nat.reduceMul, Nat.reduceEqDiff, Nat.reduceLeDiff, Nat.reduceBEq, reduceIte, reduceCtorEq, St.cells, counterM]
      exact (wrap64 (n := (i : Int) + 1) (by omega) (by omega)).symm
    · have hie : i = text.length := by omega
      subst hie
      refine call_w (lbPut_c b2 hm (by omega) hx) [3] (by simp (maxSteps := 4000000) only [push_cast, Int.reduceEq, Int.reduceBNe, Int.reduceBEq, Int.reduceAdd, Int.reduceSub, Int.reduceMul, Int.reduceNeg, Int.reduceLT, Int.reduceLE, Int.reduceToNat, Nat.reduceLT, Nat.reduceAdd, Nat.reduceSub, Nat.reduceMul, Nat.reduceEqDiff, Nat.reduceLeDiff, Nat.reduceBEq, reduceIte, reduceCtorEq, St.sv, St.cells, RawM.v, counterM]) ?_
      rintro sv post ⟨y, ⟨hB, hn⟩, ⟨k1, k2, k3, k4, k5⟩, rfl, rfl⟩
      obtain ⟨gB, gn⟩ := g
      simp only at k2 k4 k5
      subst k2
      simp (maxSteps := 4000000) only [push_cast, Int.reduceEq, Int.reduceBNe, Int.reduceBEq, Int.reduceAdd, Int.reduceSub, Int.reduceMul, Int.reduceNeg, Int.reduceLT, Int.reduceLE, Int.reduceToNat, Nat.reduceLT, Nat.reduceAdd, Nat.reduceSub, Nat.reduceMul, Nat.reduceEqDiff, Nat.reduceLeDiff, Nat.reduceBEq, reduceIte, reduceCtorEq, St.sv, St.cells, rg11]
      refine unfold_ok (root := b) 2 (counterS hB gn) [9] (by simp) (by simp (maxSteps := 4000000) only [push_cast, Int.reduceEq, Int.reduceBNe, Int.reduceBEq, Int.reduceAdd, Int.reduceSub, Int.reduceMul, Int.reduceNeg, Int.reduceLT, Int.reduceLE, Int.reduceToNat, Nat.reduceLT, Nat.reduceAdd, Nat.reduceSub, Nat.reduceMul, Nat.reduceEqDiff, Nat.reduceLeDiff, Nat.reduceBEq, reduceIte, reduceCtorEq, counterS, SS.lt]) (by simp (maxSteps := 4000000) only [push_cast, Int.reduceEq, Int.reduceBNe, Int.reduceBEq, Int.reduceAdd, Int.reduceSub, Int.reduceMul, Int.reduceNeg, Int.reduceLT, Int.reduceLE, Int.reduceToNat, Nat.reduceLT, Nat.reduceAdd, Nat.reduceSub, Nat.reduceMul, Nat.reduceEqDiff, Nat.reduceLeDiff, Nat.reduceBEq, reduceIte, reduceCtorEq]) ?_
      simp (maxSteps := 4000000) only [push_cast, Int.reduceEq, Int.reduceBNe, Int.reduceBEq, Int.reduceAdd, Int.reduceSub, Int.reduceMul, Int.reduceNeg, Int.reduceLT, Int.reduceLE, Int.reduceToNat, Nat.reduceLT, Nat.reduceAdd, Nat.reduceSub, Nat.reduceMul, Nat.reduceEqDiff, Nat.reduceLeDiff, Nat.reduceBEq, reduceIte, reduceCtorEq, counterS, SS.unfold]
      refine unfold_ok (root := b2) 3 (counterS hB hn) [10] (by simp [counterM]) (by simp (maxSteps := 4000000) only [push_cast, Int.reduceEq, Int.reduceBNe, Int.reduceBEq, Int.reduceAdd, Int.reduceSub, Int.reduceMul, Int.reduceNeg, Int.reduceLT, Int.reduceLE, Int.reduceToNat, Nat.reduceLT, Nat.reduceAdd, Nat.reduceSub, Nat.reduceMul, Nat.reduceEqDiff, Nat.reduceLeDiff, Nat.reduceBEq, reduceIte, reduceCtorEq, counterS, SS.lt]) (by simp (maxSteps := 4000000) only [push_cast, Int.reduceEq, Int.reduceBNe, Int.reduceBEq, Int.reduceAdd, Int.reduceSub, Int.reduceMul, Int.reduceNeg, Int.reduceLT, Int.reduceLE, Int.reduceToNat, Nat.reduceLT, Nat.reduceAdd, Nat.reduceSub, Nat.reduceMul, Nat.reduceEqDiff, Nat.reduceLeDiff, Nat.reduceBEq, reduceIte, reduceCtorEq]) ?_
      simp (maxSteps := 4000000) only [push_cast, Int.reduceEq, Int.reduceBNe, Int.reduceBEq, Int.reduceAdd, Int.reduceSub, Int.reduceMul, Int.reduceNeg, Int.reduceLT, Int.reduceLE, Int.reduceToNat, Nat.reduceLT, Nat.reduceAdd, Nat.reduceSub, Nat.reduceMul, Nat.reduceEqDiff, Nat.reduceLeDiff, Nat.reduceBEq, reduceIte, reduceCtorEq, counterS, SS.unfold]
      refine (region_plan rfl Γok mixed (.pure 0 (.eff (.cons 1 [] (.pure 2 (.pure 3 (.pure 4 (.pure 5 (.pure 6 (.pure 7 (.pure 8 (.pure 9 (.pure 10 (.pure 11 (.pure 12 (.pure 13 (.eff (.cons 14 [] (.pure 15 (.pure 16 (.pure 17 (.pure 18 (.pure 19 (.pure 20 (.pure 21 (.pure 22 (.pure 23 (.pure 24 (.pure 25 (.eff (.cons 26 [] (.pure 27 (.pure 28 (.pure 29 (.pure 30 (.pure 31 (.pure 32 (.pure 33 (.pure 34 (.pure 35 .done))))))))) .nil))))))))))))) .nil)))))))))))))) .nil))) 119 rfl (by kernel_rfl) ?_)
      simp (maxSteps := 4000000) only [push_cast, Int.reduceEq, Int.reduceBNe, Int.reduceBEq, Int.reduceAdd, Int.reduceSub, Int.reduceMul, Int.reduceNeg, Int.reduceLT, Int.reduceLE, Int.reduceToNat, Nat.reduceLT, Nat.reduceAdd, Nat.reduceSub, Nat.reduceMul, Nat.reduceEqDiff, Nat.reduceLeDiff, Nat.reduceBEq, reduceIte, reduceCtorEq, rg11]
      refine call_w (num15_c 0) [] (by simp (maxSteps := 4000000) only [push_cast, Int.reduceEq, Int.reduceBNe, Int.reduceBEq, Int.reduceAdd, Int.reduceSub, Int.reduceMul, Int.reduceNeg, Int.reduceLT, Int.reduceLE, Int.reduceToNat, Nat.reduceLT, Nat.reduceAdd, Nat.reduceSub, Nat.reduceMul, Nat.reduceEqDiff, Nat.reduceLeDiff, Nat.reduceBEq, reduceIte, reduceCtorEq]) ?_
      rintro sv post ⟨rfl, rfl⟩
      simp (maxSteps := 4000000) only [push_cast, Int.reduceEq, Int.reduceBNe, Int.reduceBEq, Int.reduceAdd, Int.reduceSub, Int.reduceMul, Int.reduceNeg, Int.reduceLT, Int.reduceLE, Int.reduceToNat, Nat.reduceLT, Nat.reduceAdd, Nat.reduceSub, Nat.reduceMul, Nat.reduceEqDiff, Nat.reduceLeDiff, Nat.reduceBEq, reduceIte, reduceCtorEq, rg11]
      refine call_w (sameBytes_c y.o x.o) [] (by simp (maxSteps := 4000000) only [push_cast, Int.reduceEq, Int.reduceBNe, Int.reduceBEq, Int.reduceAdd, Int.reduceSub, Int.reduceMul, Int.reduceNeg, Int.reduceLT, Int.reduceLE, Int.reduceToNat, Nat.reduceLT, Nat.reduceAdd, Nat.reduceSub, Nat.reduceMul, Nat.reduceEqDiff, Nat.reduceLeDiff, Nat.reduceBEq, reduceIte, reduceCtorEq]) ?_
      rintro sv post ⟨rfl, rfl⟩
      rw [k1]
      simp (maxSteps := 4000000) only [push_cast, Int.reduceEq, Int.reduceBNe, Int.reduceBEq, Int.reduceAdd, Int.reduceSub, Int.reduceMul, Int.reduceNeg, Int.reduceLT, Int.reduceLE, Int.reduceToNat, Nat.reduceLT, Nat.reduceAdd, Nat.reduceSub, Nat.reduceMul, Nat.reduceEqDiff, Nat.reduceLeDiff, Nat.reduceBEq, reduceIte, reduceCtorEq, rg11]
      refine call_w (sameBytes_c hB hB) [] (by simp (maxSteps := 4000000) only [push_cast, Int.reduceEq, Int.reduceBNe, Int.reduceBEq, Int.reduceAdd, Int.reduceSub, Int.reduceMul, Int.reduceNeg, Int.reduceLT, Int.reduceLE, Int.reduceToNat, Nat.reduceLT, Nat.reduceAdd, Nat.reduceSub, Nat.reduceMul, Nat.reduceEqDiff, Nat.reduceLeDiff, Nat.reduceBEq, reduceIte, reduceCtorEq]) ?_
      rintro sv post ⟨rfl, rfl⟩
      simp (maxSteps := 4000000) only [push_cast, Int.reduceEq, Int.reduceBNe, Int.reduceBEq, Int.reduceAdd, Int.reduceSub, Int.reduceMul, Int.reduceNeg, Int.reduceLT, Int.reduceLE, Int.reduceToNat, Nat.reduceLT, Nat.reduceAdd, Nat.reduceSub, Nat.reduceMul, Nat.reduceEqDiff, Nat.reduceLeDiff, Nat.reduceBEq, reduceIte, reduceCtorEq, rg11, k3]
      refine ⟨fun h => ?_, fun h => ?_⟩
      · exact Fin.nil rfl (psv := .b true) (by simp (maxSteps := 4000000) only [push_cast, Int.reduceEq, Int.reduceBNe, Int.reduceBEq, Int.reduceAdd, Int.reduceSub, Int.reduceMul, Int.reduceNeg, Int.reduceLT, Int.reduceLE, Int.reduceToNat, Nat.reduceLT, Nat.reduceAdd, Nat.reduceSub, Nat.reduceMul, Nat.reduceEqDiff, Nat.reduceLeDiff, Nat.reduceBEq, reduceIte, reduceCtorEq, k4 h]) ⟨rfl, rfl⟩
      · refine (region_plan rfl Γok mixed (.pure 0 (.pure 1 (.pure 2 (.pure 3 (.pure 4 (.pure 5 (.pure 6 (.pure 7 (.pure 8 (.pure 9 .done)))))))))) 119 rfl (by kernel_rfl) ?_)
        simp (maxSteps := 4000000) only [push_cast, Int.reduceEq, Int.reduceBNe, Int.reduceBEq, Int.reduceAdd, Int.reduceSub, Int.reduceMul, Int.reduceNeg, Int.reduceLT, Int.reduceLE, Int.reduceToNat, Nat.reduceLT, Nat.reduceAdd, Nat.reduceSub, Nat.reduceMul, Nat.reduceEqDiff, Nat.reduceLeDiff, Nat.reduceBEq, reduceIte, reduceCtorEq, k5 h]
        exact Fin.nil rfl (psv := .b true) (by simp (maxSteps := 4000000) only [push_cast, Int.reduceEq, Int.reduceBNe, Int.reduceBEq, Int.reduceAdd, Int.reduceSub, Int.reduceMul, Int.reduceNeg, Int.reduceLT, Int.reduceLE, Int.reduceToNat, Nat.reduceLT, Nat.reduceAdd, Nat.reduceSub, Nat.reduceMul, Nat.reduceEqDiff, Nat.reduceLeDiff, Nat.reduceBEq, reduceIte, reduceCtorEq]) ⟨rfl, rfl⟩
end Go.Proofs.Ytbhkpefjnomncaa
