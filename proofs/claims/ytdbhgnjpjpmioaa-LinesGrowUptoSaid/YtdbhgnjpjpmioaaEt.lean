/- The engine, part T: a range over a function. -/
import Derived.Test.YtdbhgnjpjpmioaaEs
namespace Go.Eng
open Go
set_option linter.unusedVariables false
set_option linter.unusedSimpArgs false

/-- What the loop's record says, whatever its state. -/
structure RF where
  fn : FuncId
  tmps : Array Value
  ps : Array Tmp
  assign : Code
  body : Code
  D : Nat
def RF.loop (x : RF) (st : LoopState) (pe : Option Code) : Loop := { state := st, pending := pe, fn := x.fn, tmps := x.tmps, params := x.ps, assign := x.assign, body := x.body, defers := x.D }
def RF.res (x : RF) (l : Nat) (st : LoopState) (pe : Option Code) : Res := RObj l (.loop (x.loop st pe))

def pendK (K : Ex → SS → Prop) : Option Code → SS → Prop
  | none, s => K .normal s
  | some .ret, s => K .ret s
  | some (.exit i), s => K (.exit i) s
  | some (.goto i), s => K (.goto i) s
  | _, _ => False

/-- The iterator's frame, as it is entered. -/
def SS.iter (s : SS) (cap : List SV) (n : Nat) (x : RF) (l : Nat) : SS :=
  { s with fr := (.raw (.func (.yield l) #[] #[]) :: cap) ++ List.replicate (n - (cap.length + 1)) (.raw undef), rs := (s.nx + 1, x.res l .ready none) :: (s.nx, RObj x.D (.deferred (some []))) :: s.rs, nx := s.nx + 2, k := s.nx + 2, df := [] }

def iterEnd (s : SS) (x : RF) (l : Nat) (K : Ex → SS → Prop) (t : SS) : Prop :=
  t.df = [] ∧ s.nx + 2 ≤ t.nx ∧ ∃ st pe, st ≠ .busy ∧ (s.nx + 1, x.res l st pe) ∈ t.rs ∧ pendK K pe { t with fr := s.fr, rs := rsCut t.rs (s.nx + 1), k := s.k, df := x.D :: s.df }

def iterK (s : SS) (x : RF) (l : Nat) (K : Ex → SS → Prop) : Ex → SS → Prop
  | .normal, t => iterEnd s x l K t
  | .ret, t => iterEnd s x l K t
  | _, _ => False

theorem putObj_frame (w : World) (b : Nat) (o : Obj) : (∀ c, c ≠ b → (w.putObj b o).heap[c]? = w.heap[c]?) ∧ (w.putObj b o).heap.size = w.heap.size ∧ (w.putObj b o).os = w.os ∧ (w.putObj b o).tape = w.tape ∧ (w.putObj b o).output = w.output :=
  ⟨fun c hc => World.putObj_heap_other hc, World.putObj_size, rfl, rfl, rfl⟩

theorem rf_ok {P : Program} {Γ : Tab} (hΓ : Γ.ok P) {B : Ctx} (hrd : B.rd = none) {g : Operand} {ps : Array Tmp} {assign body : Code} {s : SS} {K : Ex → SS → Prop} {gf : Nat} {cap : List SV} {fnG : Func} {cG : Code} (stop : List Nat)
    (hg : opd s g = .fn (.func gf) [] cap) (hgc : ovc s true g) (hfn : P.funcs[gf]? = some fnG) (hbody : fnG.body = some cG) (hres : fnG.results = #[]) (hnm : (fnG.name == "runtime.NumGoroutine") = false)
    (h : ∀ (E1 : Env) (x : RF) (l : Nat), E1.k = s.nx + 2 → (∀ n b, E1.ρ n = some b → n < E1.k) → (∀ n b, E1.θ n = some b → n < E1.k) → DenL E1 s.fr x.tmps.toList → x.ps = ps → x.assign = assign → x.body = body →
      CodeOK P ⟨some E1, none, stop⟩ cG (s.iter cap fnG.ntmps x l) (iterK s x l K)) : CodeOK P B (.rangeFunc g ps assign body) s K := by
  intro E a w hb hf hw
  rw [hrd]
  refine wpIn_rangeFunc (fun fn _ => ?_)
  have hd := opd_den hf rfl hgc
  rw [hg] at hd
  simp only [Den] at hd
  obtain ⟨fs, cs, ev, d1, d2⟩ := hd
  obtain rfl : fs = [] := by cases fs with | nil => rfl | cons _ _ => simp only [DenL] at d1
  let x : RF := ⟨fn, a.tmps, ps, assign, body, w.heap.size⟩
  let l := w.heap.size + 1
  let W1 := (w.alloc (.deferred (some []))).alloc (.loop (x.loop .ready none))
  refine ⟨l, [mkD w.heap.size], W1, { target := .fn (.func gf) cs.toArray, args := #[.func (.yield l) #[] #[]] }, W1, gf, #[.func (.yield l) #[] #[]] ++ cs.toArray, W1, run_enterLoop_outer _ _ _ _ _, ?_, fun _ _ => trivial, ?_, fun h => by simp [wideR, Fence.wide] at h, ?_⟩
  · simp only [resolve, ev]
    simp [Deferred.ofValue, Act.eval]
  · simp only [invoke]
    exact run_callFunc' hfn hbody hnm _ _
  let E1 : Env := { E with k := s.nx + 2 }
  have hg1 : Good E1 (s.iter cap fnG.ntmps x l) W1 := by
    have h1 := (hw.alloc_res (.deferred (some []))).alloc_res (.loop (x.loop .ready none))
    have h2 := h1.rek (s.nx + 2) (Nat.le_refl _) ((.raw (.func (.yield l) #[] #[]) :: cap) ++ List.replicate (fnG.ntmps - (cap.length + 1)) (.raw undef)) []
    simp only [size_alloc'] at h2
    exact h2
  have le1 : Le0 E E1 := ⟨fun _ _ h => h, fun _ _ h => h, fun _ _ h => h, fun _ h => h⟩
  have bρ : ∀ n b, E1.ρ n = some b → n < E1.k := fun n b e => by
    show n < s.nx + 2
    by_cases hn : s.nx ≤ n
    · rw [show E1.ρ n = E.ρ n from rfl, hw.nxρ n hn] at e; cases e
    · omega
  have bθ : ∀ n b, E1.θ n = some b → n < E1.k := fun n b e => by
    show n < s.nx + 2
    by_cases hn : s.nx ≤ n
    · rw [show E1.θ n = E.θ n from rfl, hw.nxθ n hn] at e; cases e
    · omega
  have hlen := denL_length _ _ d2
  refine callsIn_of_wp_marks hfn hbody trivial ?_
  refine wpIn_mono (h E1 x l rfl bρ bθ (DenL.mono0 le1 _ _ hf.tmps) rfl rfl rfl E1 _ W1 (fun E0 e => by injection e with e; subst e; exact Env.Ext.refl _) ⟨?_, rfl⟩ hg1) ?_
  · show DenL E1 ((.raw (.func (.yield l) #[] #[]) :: cap) ++ List.replicate (fnG.ntmps - (cap.length + 1)) (.raw undef)) _
    have := denL_append (E := E1) (.raw (.func (.yield l) #[] #[]) :: cap) (List.replicate (fnG.ntmps - (cap.length + 1)) (.raw undef)) (.func (.yield l) #[] #[] :: cs) _ (by simp only [DenL, Den]; exact ⟨trivial, DenL.mono0 le1 _ _ d2⟩) (denL_undef' E1 _)
    simpa [hlen, Nat.add_comm] using this
  · rintro e a' w' ⟨E2, t, y, q1, q2, q3, q4, q5⟩
    have key : iterEnd s x l K t → LeavesInM (wideR none) (0 - 1) P fnG a'.tmps (rangePost (wideR none) 0 P l (QK E K) { a with defers := [mkD w.heap.size] ++ a.defers }) a'.defers .returning w' := by
      rintro ⟨k1, k2, st, pe, k3, k4, k5⟩
      rw [q2.defers, k1]
      obtain ⟨p1, p2⟩ := q3.reres k4
      obtain ⟨v, r1, _⟩ := results_run (P := P) hΓ q2 q3 (fn := fnG) (l := []) (vc := True) (by rw [hres]; rfl) trivial
      have hend := run_endLoop (P := P) p1 (by exact k3)
      obtain ⟨f1, f2, f3, f4, f5⟩ := putObj_frame w' l (.loop { x.loop st pe with state := .exhausted })
      have hg2 := ((p2 _ f1 f2 f3 f4 f5).1).rek s.k (show s.k ≤ t.nx by have := hw.kx; omega) s.fr (x.D :: s.df)
      have le2 : E.Ext { E2 with k := s.k } := by
        refine ⟨hw.k.symm, fun n hn => ?_, fun n hn => ?_, q1.w0, q1.S0, q1.μ, q1.μnew, q1.Z⟩
        · exact q1.ρ n (by show n < s.nx + 2; have := hw.k; have := hw.kx; omega)
        · exact q1.θ n (by show n < s.nx + 2; have := hw.k; have := hw.kx; omega)
      have le3 : Le0 E { E2 with k := s.k } := ⟨fun n b e => by
          show E2.ρ n = some b
          rw [q1.ρ n (bρ n b e)]; exact e, fun n b e => by
          show E2.θ n = some b
          rw [q1.θ n (bθ n b e)]; exact e, q1.μ, fun b hb => by show E2.Z b; rw [q1.Z]; exact hb⟩
      have hf2 : Fr { E2 with k := s.k } { t with fr := s.fr, rs := rsCut t.rs (s.nx + 1), k := s.k, df := x.D :: s.df } { a with defers := [mkD w.heap.size] ++ a.defers } := by
        refine ⟨DenL.mono0 le3 _ _ hf.tmps, ?_⟩
        show [mkD w.heap.size] ++ a.defers = List.map mkD (x.D :: s.df)
        rw [hf.defers]; rfl
      refine ⟨v, r1, pe, _, hend, ?_⟩
      cases pe with
      | none => exact ⟨_, _, .normal, le2, hf2, hg2, trivial, k5⟩
      | some c =>
        cases c <;> simp only [pendK] at k5
        · exact wpIn_exit ⟨_, _, .exit _, le2, hf2, hg2, rfl, k5⟩
        · exact wpIn_goto ⟨_, _, .goto _, le2, hf2, hg2, rfl, k5⟩
        · exact wpIn_ret ⟨_, _, .ret, le2, hf2, hg2, trivial, k5⟩
    cases y <;> cases e <;> simp only [ExRel] at q4 <;> simp only [iterK] at q5
    · exact key q5
    · exact key q5

def setPs : List Nat → List SV → List SV → List SV
  | p :: ps, v :: vs, fr => setPs ps vs (lset fr p v)
  | _, _, fr => fr

theorem setPs_den {E : Env} : ∀ (ps : List Nat) (xs : List SV) (vs : List Value) (fr : List SV) (tmps : Array Value), DenL E fr tmps.toList → DenL E xs vs →
    DenL E (setPs ps xs fr) ((ps.zip vs).foldl (fun (t : Array Value) (p : Nat × Value) => t.setIfInBounds p.1 p.2) tmps).toList
  | [], xs, vs, fr, tmps, h, _ => by simpa [setPs] using h
  | p :: ps, [], [], fr, tmps, h, _ => by simpa [setPs] using h
  | p :: ps, [], _ :: _, fr, tmps, h, k => by simp only [DenL] at k
  | p :: ps, _ :: _, [], fr, tmps, h, k => by simp only [DenL] at k
  | p :: ps, x :: xs, v :: vs, fr, tmps, h, k => by
    simp only [DenL] at k
    simp only [setPs, List.zip_cons_cons, List.foldl_cons]
    exact setPs_den ps xs vs _ _ (by simpa using denL_set _ _ _ _ _ h k.1) k.2

def roundEnd (x : RF) (l r : Nat) (t1 : SS) (dst : Option Tmp) (K : SS → Prop) (pe : Option Code) (b : SS) : Prop :=
  t1.nx ≤ b.nx ∧ (r, x.res l .busy none) ∈ b.rs ∧ K (SS.put { b with fr := t1.fr, rs := rsSet b.rs r (x.res l (if pe.isNone then .ready else .done) pe), k := t1.k, df := t1.df } dst (.b pe.isNone))

def roundK (x : RF) (l r : Nat) (t1 : SS) (dst : Option Tmp) (K : SS → Prop) : Ex → SS → Prop
  | .normal, b => roundEnd x l r t1 dst K none b
  | .ret, b => roundEnd x l r t1 dst K (some .ret) b
  | .exit i, b => roundEnd x l r t1 dst K (some (.exit i)) b
  | .goto i, b => roundEnd x l r t1 dst K (some (.goto i)) b

def assignK (P : Program) (x : RF) (l r : Nat) (t1 : SS) (dst : Option Tmp) (stop : List Nat) (K : SS → Prop) : Ex → SS → Prop
  | .normal, b => t1.nx ≤ b.nx ∧ (r, x.res l .ready none) ∈ b.rs ∧ CodeOK P ⟨none, some l, stop⟩ x.body { b with rs := rsSet b.rs r (x.res l .busy none) } (roundK x l r t1 dst K)
  | _, _ => False

/-- What is asked where yield is called. -/
def YOK (P : Program) (x : RF) (l r : Nat) (sfr : List SV) (stop : List Nat) (o : Oper) (K : SS → Prop) (t1 : SS) : Prop :=
  match o.op with
  | .call c =>
    match c.callee with
    | .value f => o.guard = none ∧ opd t1 f = .raw (.func (.yield l) #[] #[]) ∧ ovc t1 true f ∧ ovcL t1 true c.args.toList ∧ c.args.size = x.ps.size ∧ (r, x.res l .ready none) ∈ t1.rs ∧
        CodeOK P ⟨none, some l, stop⟩ x.assign { t1 with fr := setPs x.ps.toList (c.args.toList.map (opd t1)) sfr, k := t1.nx, df := [] } (assignK P x l r t1 o.dst stop K)
    | _ => False
  | _ => False
theorem YOK_eq {P : Program} {x : RF} {l r : Nat} {sfr : List SV} {stop : List Nat} {o : Oper} {K : SS → Prop} {t1 : SS} : YOK P x l r sfr stop o K t1 =
  (match o.op with
  | .call c =>
    match c.callee with
    | .value f => o.guard = none ∧ opd t1 f = .raw (.func (.yield l) #[] #[]) ∧ ovc t1 true f ∧ ovcL t1 true c.args.toList ∧ c.args.size = x.ps.size ∧ (r, x.res l .ready none) ∈ t1.rs ∧
        CodeOK P ⟨none, some l, stop⟩ x.assign { t1 with fr := setPs x.ps.toList (c.args.toList.map (opd t1)) sfr, k := t1.nx, df := [] } (assignK P x l r t1 o.dst stop K)
    | _ => False
  | _ => False) := rfl

theorem evStill_list {P : Program} {Γ : Tab} (hΓ : Γ.ok P) {rd : Option Nat} {ops : List Oper} {K : SS → Prop} {Q : Exit → Act → World → Prop} (hQ : ¬ LetsOut Q) {E : Env} {w : World} (rest : List Oper) :
    ∀ (l : List Oper) (st : SS) (a : Act), Fr E st a → Good E st w → evStill P Γ ops K l st →
      (∀ st' a', Fr E st' a' → Good E st' w → K st' → wpListIn (wideR rd) 0 P ops.toArray Q rest a' w) → wpListIn (wideR rd) 0 P ops.toArray Q (l ++ rest) a w
  | [], st, a, hf, hw, h, hK => hK st a hf hw h
  | o :: r, st, a, hf, hw, h, hK => by
    have hg := evGuard_sound (E := E) hf (ops := ops) (o := o)
    simp only [evStill] at h
    simp only [List.cons_append, wpListIn]
    split at h
    · exact h.elim
    · rename_i e1
      rw [if_pos (hg.1 e1)]
      split at h
      · rename_i v vc e2
        obtain ⟨h1, h2⟩ := h
        obtain ⟨x, k1, k2⟩ := evalP_sound hΓ hf hw rfl e2 h1
        exact wpIn_of (evalP_defer e2) hQ (wp_value k1 (evStill_list hΓ hQ rest r _ _ (hf.put _ k2) (hw.put _ _) h2 hK))
      · exact h.elim
    · rename_i g e1
      have hgw := hg.2 g e1
      split at h
      · rename_i v vc e2
        obtain ⟨h1, h2⟩ := h
        cases g with
        | true =>
          rw [if_pos hgw]
          obtain ⟨x, k1, k2⟩ := evalP_sound hΓ hf hw rfl e2 (h1 rfl)
          exact wpIn_of (evalP_defer e2) hQ (wp_value k1 (evStill_list hΓ hQ rest r _ _ (hf.put _ (by simp only [Den]; exact ⟨fun _ => k2, fun h => by simp at h⟩)) (hw.put _ _) h2 hK))
        | false =>
          rw [if_neg (by rw [hgw]; simp)]
          exact ⟨fun _ _ => trivial, evStill_list hΓ hQ rest r _ _ (hf.put _ (by simp only [Den]; exact ⟨fun h => by simp at h, fun _ => by trivial⟩)) (hw.put _ _) h2 hK⟩
      · exact h.elim

theorem yield_ok {P : Program} {Γ : Tab} (hΓ : Γ.ok P) {E1 : Env} {x : RF} {l : Nat} {sfr : List SV} (bρ : ∀ n b, E1.ρ n = some b → n < E1.k) (bθ : ∀ n b, E1.θ n = some b → n < E1.k) (hden : DenL E1 sfr x.tmps.toList)
    {stop : List Nat} (r : Nat) (stopB : List Nat) (n : Nat) {id : Nat} {L : List Oper} {t : SS} {K : Ex → SS → Prop} {o : Oper} {rest : List Oper} (hL : L = L.take n ++ o :: rest)
    (h : evStill P Γ L (YOK P x l r sfr stopB o (evStill P Γ L (K .normal) rest)) (L.take n) t) : CodeOK P ⟨some E1, none, stop⟩ (.region id L.toArray false) t K := by
  intro E a w hb hf hw
  have hx := hb E1 rfl
  refine wpIn_region_lit ?_
  have main := evStill_list (rd := none) (Q := QK E K) hΓ not_letsOut (o :: rest) (L.take n) t a hf hw h (fun t1 a1 f1 g1 hY => ?_)
  · rw [← hL] at main; exact main
  unfold YOK at hY
  split at hY
  · rename_i c hop
    split at hY
    · rename_i f hcal
      obtain ⟨y0, y1, y2, y3, y4, y5, y6⟩ := hY
      simp only [wpListIn]
      rw [if_pos (by unfold Region.wanted; rw [y0])]
      refine ⟨fun _ _ => trivial, ?_⟩
      have hv := opd_den f1 rfl y2
      rw [y1] at hv
      simp only [Den] at hv
      have hargs := denL_ops f1 rfl _ y3
      obtain ⟨p1, p2⟩ := g1.reres y5
      have hrun : (o.semAt (wideR none).round a1.eval).run P w = .ok (.round l x.fn ((x.ps.zip (c.args.map a1.eval)).foldl (fun t (p : Nat × Value) => t.setIfInBounds p.1 p.2) x.tmps) x.assign x.body) w := by
        have hy := run_yield (P := P) (args := c.args.map a1.eval) p1 (by rw [Array.size_map]; exact y4)
        show (execOp a1.eval o).run P w = _
        simp only [execOp, hop, resolve, hcal, hv, Deferred.ofValue, Sem.run_bind, Sem.run_pure, Result.andThen_ok, invoke]
        simpa [RF.loop] using hy
      rw [hrun, Oper.uponIn_round]
      refine ⟨fun h => by simp [wideR, Fence.wide] at h, roundIn_of_wpIn trivial ?_⟩
      let E' : Env := { E with k := t1.nx }
      have le0 : Le0 E1 E' := let k := hx.le0 bρ bθ; ⟨k.ρ, k.θ, k.μ, k.mt⟩
      have leE : Le0 E E' := ⟨fun _ _ h => h, fun _ _ h => h, fun _ _ h => h, fun _ h => h⟩
      have hfb : Fr E' { t1 with fr := setPs x.ps.toList (c.args.toList.map (opd t1)) sfr, k := t1.nx, df := [] } { tmps := (x.ps.zip (c.args.map a1.eval)).foldl (fun t (p : Nat × Value) => t.setIfInBounds p.1 p.2) x.tmps, defers := [] } := by
        refine ⟨?_, rfl⟩
        have := setPs_den (E := E') x.ps.toList (c.args.toList.map (opd t1)) (c.args.toList.map a1.eval) sfr x.tmps (DenL.mono0 le0 _ _ hden) (DenL.mono0 leE _ _ hargs)
        rw [← Array.foldl_toList]
        simpa [Array.toList_zip] using this
      have hgb := g1.rek t1.nx (Nat.le_refl _) (setPs x.ps.toList (c.args.toList.map (opd t1)) sfr) []
      refine wpIn_mono (y6 E' _ w (fun E0 e => by cases e) hfb hgb) ?_
      rintro e a2 w2 ⟨E2, b1, y, q1, q2, q3, q4, q5⟩
      cases y <;> cases e <;> simp only [ExRel] at q4 <;> simp only [assignK] at q5
      obtain ⟨k0, k1, k2⟩ := q5
      obtain ⟨p3, p4⟩ := q3.reres k1
      obtain ⟨f1', f2', f3', f4', f5'⟩ := putObj_frame w2 l (.loop { x.loop .ready none with state := .busy })
      have g2 := (p4 _ f1' f2' f3' f4' f5').2 (.loop (x.loop .busy none)) (World.putObj_heap_same (Array.getElem?_eq_some_iff.1 p3).1)
      refine ⟨_, run_beginRound p3 rfl, ?_⟩
      refine wpIn_mono (k2 E2 a2 _ (fun E0 e => by cases e) ⟨q2.tmps, q2.defers⟩ g2) ?_
      rintro e a3 w3 ⟨E3, b2, y, r1, r2, r3, r4, r5⟩
      have hext : E'.Ext E3 := q1.trans r1
      have key : ∀ pe, roundEnd x l r t1 o.dst (evStill P Γ L (K .normal) rest) pe b2 → ∃ v w', (Instr.endRound l pe).run P w3 = .ok v w' ∧ wpListIn (wideR none) 0 P L.toArray (QK E K) rest (a1.put o.dst v) w' := by
        rintro pe ⟨m1, m2, m3⟩
        obtain ⟨p5, p6⟩ := r3.reres m2
        obtain ⟨h1, h2, h3, h4, h5⟩ := putObj_frame w3 l (.loop { x.loop .busy none with state := if pe.isNone then .ready else .done, pending := pe })
        have g3 := ((p6 _ h1 h2 h3 h4 h5).2 (.loop (x.loop (if pe.isNone then .ready else .done) pe)) (World.putObj_heap_same (Array.getElem?_eq_some_iff.1 p5).1)).rek t1.k (Nat.le_trans g1.kx m1) t1.fr t1.df
        have le2 : E.Ext { E3 with k := t1.k } := by
          refine ⟨g1.k.symm, fun n hn => ?_, fun n hn => ?_, hext.w0, hext.S0, hext.μ, hext.μnew, hext.Z⟩
          · exact hext.ρ n (by show n < t1.nx; have := g1.k; have := g1.kx; omega)
          · exact hext.θ n (by show n < t1.nx; have := g1.k; have := g1.kx; omega)
        have le3 : Le0 E { E3 with k := t1.k } := ⟨fun n b e => by
            show E3.ρ n = some b
            rw [hext.ρ n (by show n < t1.nx; by_cases hn : t1.nx ≤ n; · rw [g1.nxρ n hn] at e; cases e
                             · omega)]; exact e, fun n b e => by
            show E3.θ n = some b
            rw [hext.θ n (by show n < t1.nx; by_cases hn : t1.nx ≤ n; · rw [g1.nxθ n hn] at e; cases e
                             · omega)]; exact e, hext.μ, fun b hb => by show E3.Z b; rw [hext.Z]; exact hb⟩
        refine ⟨_, _, run_endRound pe p5, ?_⟩
        have f4 : Fr { E3 with k := t1.k } { b2 with fr := t1.fr, rs := rsSet b2.rs r (x.res l (if pe.isNone then .ready else .done) pe), k := t1.k, df := t1.df } a1 := ⟨DenL.mono0 le3 _ _ f1.tmps, f1.defers⟩
        have := evStill_list (rd := none) (Q := QK E K) hΓ not_letsOut [] rest _ _ (f4.put o.dst (x := .b pe.isNone) (v := .bool pe.isNone) (by simp only [Den])) (g3.put _ _) m3 (fun t3 a3 f3 g3 h3 => ⟨_, t3, .normal, le2, f3, g3, trivial, h3⟩)
        simpa using this
      cases y <;> cases e <;> simp only [ExRel] at r4 <;> simp only [roundK] at r5
      · obtain ⟨v, w', z1, z2⟩ := key _ r5
        exact ⟨v, w', z1, z2⟩
      · obtain ⟨v, w', z1, z2⟩ := key _ r5
        exact ⟨v, w', z1, z2⟩
      · subst r4
        obtain ⟨v, w', z1, z2⟩ := key _ r5
        exact ⟨v, w', z1, z2⟩
      · subst r4
        obtain ⟨v, w', z1, z2⟩ := key _ r5
        exact ⟨v, w', z1, z2⟩
    · exact hY.elim
  · exact hY.elim
end Go.Eng
