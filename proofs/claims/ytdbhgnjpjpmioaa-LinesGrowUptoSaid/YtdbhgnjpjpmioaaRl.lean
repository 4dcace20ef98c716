/- What is got off a stream over a Raw that feeds it: what is left, byte by byte. -/
import Derived.Test.YtdbhgnjpjpmioaaRk
namespace Go.Proofs.Ytdbhgnjpjpmioaa
open Go Go.Eng
set_option linter.unusedSimpArgs false
set_option linter.unusedVariables false

/-- Reads tell what is left, bit by bit. -/
structure Feeds (M : RawM) (rest : M.σ → List Int) : Prop where
  run : ∀ g n, M.ok g → 1 ≤ n → n ≤ 65536 → (someV M g n).2.2 = 0 ∧ (someV M g n).2.1 ++ rest (someV M g n).1 = rest g ∧ ((someV M g n).2.1 = [] → rest g = [])

/-- A stream that reads, nothing pushed back. -/
structure Reads (M : RawM) (rest : M.σ → List Int) (x : St) (g : M.σ) : Prop where
  may : x.May
  r : x.r = true
  cl : x.cl = false
  d : x.d ≠ 2
  k : x.k = []
  o : x.o = []
  en : x.en = true → rest g = []
  ok : M.ok g
/-- All that is left. -/
def left (M : RawM) (rest : M.σ → List Int) (x : St) (g : M.σ) : List Int := x.i ++ rest g

theorem Reads.bErr {M : RawM} {rest : M.σ → List Int} {x : St} {g : M.σ} (h : Reads M rest x g) : x.bErr = 0 := by
  unfold St.bErr; rw [if_pos h.may, if_neg (by simp [h.cl])]
theorem Reads.fits {M : RawM} {rest : M.σ → List Int} {x : St} {g : M.σ} (h : Reads M rest x g) : x.fits := by
  obtain ⟨b1, b2, b3, b4⟩ := May.bd h.may
  exact ⟨by omega, by omega, by omega⟩

theorem may_got {r w : Bool} {m s d : Int} {i k i' k' : List Int} {en bad cl en' bad' : Bool} (h : St.May ⟨r, w, m, s, [], i, k, d, en, bad, cl⟩) (hr : r = true) (hc : cl = false) (hi : i'.length ≤ 65536) (hk : k'.length ≤ 8) : St.May ⟨r, w, m, s, [], i', k', 1, en', bad', cl⟩ := by
  obtain ⟨h1, h2, h3, h4, h5, h6, h7⟩ := h
  exact ⟨h1, h2, h3, hi, hk, .inl hc, .inr (.inl ⟨rfl, hr, rfl⟩)⟩

/-- A byte more is got, or the end is told. -/
theorem get_feeds {M : RawM} (hR : M.Rd) {rest : M.σ → List Int} (hF : Feeds M rest) {x : St} {g : M.σ} (h : Reads M rest x g) :
    Reads M rest (x.Get M g).1 (x.Get M g).2.1 ∧
      (match left M rest x g with
      | [] => (x.Get M g).2.2 = (0, 111) ∧ left M rest (x.Get M g).1 (x.Get M g).2.1 = [] ∧ (x.Get M g).1.en = true ∧ (x.Get M g).1.bad = x.bad
      | c :: l => (x.Get M g).2.2 = (c, 0) ∧ left M rest (x.Get M g).1 (x.Get M g).2.1 = l ∧ (x.Get M g).1.bad = x.bad) := by
  have hb := h.bErr
  have hok := Get_ok M hR x g h.ok
  obtain ⟨r, w, m, s, o, i, k, d, en, bad, cl⟩ := x
  obtain ⟨h1, h2, h3, h4, h5, h6, h7, h8⟩ := h
  simp only at h2 h3 h4 h5 h6 h7
  subst h2 h3 h5 h6
  obtain ⟨b1, b2, b3, b4⟩ := May.bd h1
  simp only at b1 b3
  obtain ⟨a1, a2⟩ := ask_rng b1
  unfold St.Get at hok ⊢
  rw [if_neg (by rw [hb]; simp)] at hok ⊢
  cases i with
  | cons c l =>
    have hg : St.get M ⟨true, w, m, s, [], c :: l, [], d, en, bad, false⟩ g = (⟨true, w, m, s, [], l, [], 1, en, bad, false⟩, g, c, 0) := by
      simp [St.get, h4]
    rw [hg] at hok ⊢
    simp only [left, List.cons_append]
    exact ⟨⟨may_got h1 rfl rfl (by simp at b3 ⊢; omega) (by simp), rfl, rfl, by simp, rfl, rfl, h7, h8⟩, by simp⟩
  | nil =>
    by_cases hen : en = true
    · subst hen
      have hr := h7 rfl
      have hg : St.get M ⟨true, w, m, s, [], [], [], d, true, bad, false⟩ g = (⟨true, w, m, s, [], [], [], 1, true, bad, false⟩, g, 0, 111) := by
        simp [St.get, St.fill, h4]
      rw [hg] at hok ⊢
      simp only [left, List.nil_append, hr]
      exact ⟨⟨may_got h1 rfl rfl (by simp) (by simp), rfl, rfl, by simp, rfl, rfl, h7, h8⟩, by simp⟩
    · have hen : en = false := by simpa using hen
      subst hen
      obtain ⟨f1, f2, f3⟩ := hF.run g (askV m s) h8 a1 a2
      have hl : ((someV M g (askV m s)).2.1.length : Int) ≤ askV m s := someV_len M (askV m s) a1 8192 g
      obtain ⟨g', b, e, hq⟩ : ∃ g' b e, someV M g (askV m s) = (g', b, e) := ⟨_, _, _, rfl⟩
      rw [hq] at f1 f2 f3 hl
      simp only at f1 f2 f3 hl
      subst f1
      cases b with
      | nil =>
        have hr := f3 rfl
        have hr' : rest g' = [] := by rw [hr] at f2; simpa using f2
        have hg : St.get M ⟨true, w, m, s, [], [], [], d, false, bad, false⟩ g = (⟨true, w, m, s, [], [], [], 1, true, bad, false⟩, g', 0, 111) := by
          simp [St.get, St.fill, h4, hq]
        rw [hg] at hok ⊢
        simp only [left, List.nil_append, hr]
        exact ⟨⟨may_got h1 rfl rfl (by simp) (by simp), rfl, rfl, by simp, rfl, rfl, fun _ => hr', hok⟩, by simp [hr']⟩
      | cons c l =>
        have hg : St.get M ⟨true, w, m, s, [], [], [], d, false, bad, false⟩ g = (⟨true, w, m, s, [], l, [], 1, false, bad, false⟩, g', c, 0) := by
          simp [St.get, St.fill, St.noted, h4, hq]
        rw [hg] at hok ⊢
        simp only [left, List.nil_append]
        rw [← f2]
        simp only [List.cons_append]
        exact ⟨⟨may_got h1 rfl rfl (by simp at hl ⊢; omega) (by simp), rfl, rfl, by simp, rfl, rfl, fun he => by simp at he, hok⟩, by simp⟩

/-- Bytes up to one: what they are. -/
structure Line (d limit : Int) (all out rest : List Int) : Prop where
  app : out ++ rest = all
  len : (out.length : Int) ≤ limit
  inner : ∀ c, c ∈ out.dropLast → c ≠ d
  why : out.getLast? = some d ∨ (out.length : Int) = limit ∨ rest = []
theorem lineGo_feeds {M : RawM} (hR : M.Rd) {rest : M.σ → List Int} (hF : Feeds M rest) (d limit : Int) : ∀ (f : Nat) (x : St) (g : M.σ) (out : List Int), Reads M rest x g → (out.length : Int) ≤ limit → limit < f + out.length → (∀ c, c ∈ out → c ≠ d) →
    (let r := lineGo M (fun c => c == d) limit f x g out
     Reads M rest r.1 r.2.1 ∧ r.1.bad = x.bad ∧
       ((r.2.2.2 = 0 ∧ Line d limit (out ++ left M rest x g) r.2.2.1 (left M rest r.1 r.2.1) ∧ (r.2.2.1 ≠ [] ∨ limit = 0)) ∨
        (r.2.2.2 = 111 ∧ r.2.2.1 = [] ∧ out = [] ∧ left M rest x g = [] ∧ left M rest r.1 r.2.1 = [])))
  | 0, x, g, out, h, h1, h2, h3 => by omega
  | f + 1, x, g, out, h, h1, h2, h3 => by
    obtain ⟨k1, k2⟩ := get_feeds hR hF h
    dsimp only
    unfold lineGo
    by_cases hlt : (out.length : Int) < limit
    · rw [if_pos hlt]
      cases hl : left M rest x g with
      | nil =>
        rw [hl] at k2
        obtain ⟨e1, e2, e3, e4⟩ := k2
        rw [show (x.Get M g).2.2.2 = 111 by rw [e1]]
        rw [if_pos (by simp)]
        refine ⟨k1, e4, ?_⟩
        by_cases ho : 0 < out.length
        · refine .inl ⟨by simp [ho], ⟨by simp [e2], h1, fun c hc => h3 c (List.dropLast_subset _ hc), .inr (.inr e2)⟩, .inl (List.length_pos_iff.1 ho)⟩
        · have : out = [] := by
            have : out.length = 0 := by omega
            simpa using this
          subst this
          exact .inr ⟨by simp, rfl, rfl, rfl, e2⟩
      | cons c l =>
        rw [hl] at k2
        obtain ⟨e1, e2, e3⟩ := k2
        rw [show (x.Get M g).2.2.2 = 0 by rw [e1], show (x.Get M g).2.2.1 = c by rw [e1]]
        rw [if_neg (by simp)]
        by_cases hc : c = d
        · subst hc
          rw [if_pos (by simp)]
          exact ⟨k1, e3, .inl ⟨rfl, ⟨by simp [e2], by simp; omega, fun c' hc' => h3 c' (by simpa using hc'), .inl (by simp)⟩, .inl (by simp)⟩⟩
        · rw [if_neg (by simpa using hc)]
          have ih := lineGo_feeds hR hF d limit f (x.Get M g).1 (x.Get M g).2.1 (out ++ [c]) k1 (by simp; omega) (by simp; omega) (fun c' hc' => by
            rcases List.mem_append.1 hc' with h | h
            · exact h3 c' h
            · rw [List.mem_singleton] at h; rw [h]; exact hc)
          dsimp only at ih
          obtain ⟨i1, i2, i3⟩ := ih
          refine ⟨i1, i2.trans e3, ?_⟩
          rcases i3 with ⟨j1, j2, j3⟩ | ⟨j1, j2, j3, _⟩
          · refine .inl ⟨j1, ?_, j3⟩
            rw [e2] at j2
            simpa using j2
          · simp at j3
    · rw [if_neg hlt]
      refine ⟨h, rfl, .inl ⟨rfl, ⟨rfl, h1, fun c hc => h3 c (List.dropLast_subset _ hc), .inr (.inl (by dsimp only; omega))⟩, ?_⟩⟩
      by_cases ho : out = []
      · right; subst ho; simp at h1 hlt; omega
      · exact .inl ho

/-- A line, or the end. -/
theorem until_feeds {M : RawM} (hR : M.Rd) {rest : M.σ → List Int} (hF : Feeds M rest) (d limit : Int) (hl1 : 1 ≤ limit) (hl2 : limit ≤ 65536) {x : St} {g : M.σ} (h : Reads M rest x g) :
    (let r := x.Until M g d limit
     Reads M rest r.1 r.2.1 ∧ r.1.bad = x.bad ∧
       ((r.2.2.2 = 0 ∧ Line d limit (left M rest x g) r.2.2.1 (left M rest r.1 r.2.1) ∧ r.2.2.1 ≠ []) ∨
        (r.2.2.2 = 111 ∧ r.2.2.1 = [] ∧ left M rest x g = [] ∧ left M rest r.1 r.2.1 = []))) := by
  have e : x.Until M g d limit = lineV M (fun c => c == d) limit x g := by
    unfold St.Until
    rw [if_neg]
    rw [if_neg (by omega)]
    unfold St.aErr
    rw [if_pos h.may, if_neg (by simp [h.cl])]
    simp
  have key := lineGo_feeds hR hF d limit (limit.toNat + 1) x g [] h (by simp; omega) (by simp; omega) (by simp)
  rw [e]
  unfold lineV
  dsimp only at key ⊢
  obtain ⟨k1, k2, k3⟩ := key
  refine ⟨k1, k2, ?_⟩
  rcases k3 with ⟨j1, j2, j3⟩ | ⟨j1, j2, _, j3, j4⟩
  · refine .inl ⟨j1, by simpa using j2, ?_⟩
    rcases j3 with h | h
    · exact h
    · omega
  · exact .inr ⟨j1, j2, j3, j4⟩
end Go.Proofs.Ytdbhgnjpjpmioaa
