/- The engine, part H: all operations that leave the world alone, in one. -/
import Derived.Test.YtdbhgnjpjpmioaaEg
namespace Go.Eng
open Go
set_option linter.unusedVariables false
set_option linter.unusedSimpArgs false

def allT (Γ : Tab) : List (Nat × TypeId) → Prop
  | [] => True
  | (_, t) :: r => (Γ t).d ≠ .none ∧ allT Γ r
def tdT (Γ : Tab) : TD → Prop
  | .struct fs => allT Γ fs
  | .arr _ e => (Γ e).d ≠ .none
  | _ => False

theorem allT_mem {Γ : Tab} : ∀ {l : List (Nat × TypeId)}, allT Γ l → ∀ p, p ∈ l → (Γ p.2).d ≠ .none
  | [], _, p, h => by simp at h
  | (o, t) :: r, h, p, hp => by
    simp only [allT] at h
    rcases List.mem_cons.1 hp with rfl | hp
    · exact h.1
    · exact allT_mem h.2 p hp

theorem run_mapM_list {α β : Type} {P : Program} {w : World} (f : α → Sem β) (g : α → β) : ∀ (l : List α), (∀ x, x ∈ l → (f x).run P w = .ok (g x) w) → (l.mapM f).run P w = .ok (l.map g) w
  | [], _ => by simp
  | x :: r, h => by
    rw [List.mapM_cons]
    simp [h x (by simp), run_mapM_list f g r (fun y hy => h y (by simp [hy]))]

theorem run_mapM_arr {α β : Type} {P : Program} {w : World} (f : α → Sem β) (g : α → β) (l : Array α) (h : ∀ x, x ∈ l.toList → (f x).run P w = .ok (g x) w) : (l.mapM f).run P w = .ok (l.map g) w := by
  rw [Array.mapM_eq_mapM_toList]
  simp [run_mapM_list f g l.toList h]
  apply Array.ext'; simp

def evBuild (Γ : Tab) (st : SS) (g : Bool) (t : TypeId) (parts : List (Nat × Operand)) : Option (SV × Prop) :=
  match evParts Γ (Γ t).d (parts.map fun p => (p.1, opd st p.2)) ((Γ t).zero.map ofLeaf) with
  | some (m, vc) => some (.agg m, vc ∧ ovcL st g (parts.map (·.2)) ∧ tdT Γ (Γ t).d)
  | none => none

theorem evBuild_sound {P : Program} {Γ : Tab} (hΓ : Γ.ok P) {E : Env} {st : SS} {a : Act} {w : World} {g : Bool} (hf : Fr E st a) (hg : g = true) {t : TypeId} {parts : Array (Nat × Operand)} {r : SV} {vc : Prop}
    (h : evBuild Γ st g t parts.toList = some (r, vc)) (hv : vc) : ∃ v, (Instr.build t (parts.map fun (i, x) => (i, a.eval x))).run P w = .ok v w ∧ Den E r v := by
  unfold evBuild at h
  split at h
  · rename_i m vc' e1
    simp only [Option.some.injEq, Prod.mk.injEq] at h
    obtain ⟨rfl, rfl⟩ := h
    obtain ⟨h1, h2, h3⟩ := hv
    have hn : (Γ t).d ≠ .none := by intro e; rw [e] at h3; exact h3
    obtain ⟨i, z, hi, hs, -, hz, hzc⟩ := Tab.info hΓ _ hn
    have hd := (hΓ t).und
    have hden := denL_ops hf hg _ h2
    have hzero : (zeroValue t).run P w = .ok z w := by simp [zeroValue, typeInfo, hi, hz]
    have hparts : (parts.map fun (p : Nat × Operand) => (p.1, a.eval p.2)).toList = parts.toList.map fun p => (p.1, a.eval p.2) := by simp
    have key : ∀ place : Nat → Option (Nat × Nat), (∀ i off ft, placeOf Γ (Γ t).d i = some (off, ft) → (Γ ft).d ≠ .none → place i = some (off, (Γ ft).size)) →
        ∃ cs', Instr.fill place z.cells (parts.toList.map fun p => (p.1, a.eval p.2)) = some cs' ∧ DenL E m cs'.toList := by
      intro place hp
      exact evParts_sound hΓ place hp _ _ _ z.cells m vc' (by simp [Function.comp_def]) (by simpa [Function.comp_def] using hden) (by rw [hzc]; exact denL_ofLeaf E _) e1 h1
    cases hd' : (Γ t).d with
    | struct fs =>
      rw [hd'] at hd h3
      simp only [tdT] at h3
      obtain ⟨fields, hd, hfs⟩ := hd
      have hmap := run_mapM_arr (P := P) (w := w) (fun f : Field => do pure (f.offset, ← sizeOf f.type)) (fun f => (f.offset, (Γ f.type).size)) fields (fun f hf => by
        have hn' : (Γ f.type).d ≠ .none := by
          have : (f.offset, f.type) ∈ fs := by rw [← hfs]; exact List.mem_map_of_mem hf
          exact allT_mem h3 _ this
        obtain ⟨i', z', hi', hs', -⟩ := Tab.info hΓ _ hn'
        simp [run_sizeOf' hi', hs'])
      obtain ⟨cs', k1, k2⟩ := key (fun i => ((fields.map fun f => (f.offset, (Γ f.type).size))[i]?)) (fun i off ft hpl hne => by
        rw [hd'] at hpl
        simp only [placeOf, nth_eq] at hpl
        rw [← hfs] at hpl
        simp only [List.getElem?_map, Option.map_eq_some_iff, Prod.mk.injEq] at hpl
        obtain ⟨fd, h5, rfl, rfl⟩ := hpl
        have : fields[i]? = some fd := by simpa using h5
        simp [this])
      refine ⟨.agg cs', ?_, by simp only [Den]; exact ⟨cs'.toList, by simp, k2⟩⟩
      simp only [Instr.build, Sem.run_bind, hzero, Result.andThen_ok, run_underlying hd, hmap]
      rw [hparts, k1]
      rfl
    | arr n e =>
      rw [hd'] at hd h3
      simp only [tdT] at h3
      simp only [TD.ok] at hd
      obtain ⟨i', z', hi', hs', -⟩ := Tab.info hΓ _ h3
      obtain ⟨cs', k1, k2⟩ := key (fun i => some (i * (Γ e).size, (Γ e).size)) (fun i off ft hpl hne => by
        rw [hd'] at hpl
        simp only [placeOf, Option.some.injEq, Prod.mk.injEq] at hpl
        obtain ⟨rfl, rfl⟩ := hpl
        rfl)
      refine ⟨.agg cs', ?_, by simp only [Den]; exact ⟨cs'.toList, by simp, k2⟩⟩
      simp only [Instr.build, Sem.run_bind, hzero, Result.andThen_ok, run_underlying hd, run_sizeOf' hi', hs']
      rw [hparts, k1]
      rfl
    | _ => rw [hd'] at h3; exact h3.elim
  · cases h

/-- What an operation that leaves the world alone comes to. -/
def evalP (P : Program) (Γ : Tab) (st : SS) (g : Bool) (o : Op) : Option (SV × Prop) :=
  match o with
  | .move x => some (opd st x, ovc st g x)
  | .assign x => some (opd st x, ovc st g x)
  | .pick c x y => evPick st g c x y
  | .nilCheck x => evNil P st g x
  | .fieldAddr t x f => evField Γ st g t x f
  | .indexAddr t x i => evIndexAddr Γ st g t x i
  | .load t x => evLoad Γ st g t x
  | .binOp op t x y _ =>
    match bin (Γ t).d (isC x || isC y) op (opd st x) (opd st y) with
    | some (r, vc) => some (r, vc ∧ ovc st g x ∧ ovc st g y)
    | none => none
  | .unOp op _ x =>
    match evUn op (opd st x) with
    | some r => some (r, ovc st g x)
    | none => none
  | .convert s d x =>
    match evConv Γ s d (opd st x) with
    | some (r, vc) => some (r, vc ∧ ovc st g x)
    | none => none
  | .makeInterface t x => some (.ifc t (opd st x), ovc st g x ∧ (Γ t).d ≠ .none ∧ (Γ t).d ≠ .iface)
  | .makeFunc f first cap => some (.fn f (first.toList.map (opd st)) (cap.toList.map (opd st)), ovcL st g first.toList ∧ ovcL st g cap.toList)
  | .extract x n =>
    match opd st x with
    | .tup l => match nth l n with
      | some r => some (r, ovc st g x)
      | none => none
    | _ => none
  | .field t x f =>
    match evFieldV Γ t (opd st x) f with
    | some (r, vc) => some (r, vc ∧ ovc st g x)
    | none => none
  | .index t x i =>
    match evIndex Γ t (opd st x) (opd st i) with
    | some (r, vc) => some (r, vc ∧ ovc st g x ∧ ovc st g i)
    | none => none
  | .slice t x lo hi mx =>
    match mx with
    | none => match evSlice Γ t (opd st x) (lo.map (opd st)) (hi.map (opd st)) with
      | some (r, vc) => some (r, vc ∧ ovc st g x ∧ ovcL st g lo.toList ∧ ovcL st g hi.toList)
      | none => none
    | some _ => none
  | .build t parts => evBuild Γ st g t parts.toList
  | .call c =>
    match c.callee with
    | .builtin b => match evBuiltin Γ b c.argTypes.toList (c.args.toList.map (opd st)) with
      | some (r, vc) => some (r, vc ∧ ovcL st g c.args.toList)
      | none => none
    | _ => none
  | _ => none

theorem evalP_sound {P : Program} {Γ : Tab} (hΓ : Γ.ok P) {E : Env} {st : SS} {a : Act} {w : World} {g : Bool} (hf : Fr E st a) (hw : Good E st w) (hg : g = true) {o : Oper} {r : SV} {vc : Prop}
    (h : evalP P Γ st g o.op = some (r, vc)) (hv : vc) : ∃ v, (execOp a.eval o).run P w = .ok (.value v) w ∧ Den E r v := by
  have fin : ∀ {s : Sem Value} {v : Value}, s.run P w = .ok v w → ((do pure (Next.value (← s)) : Sem Next)).run P w = .ok (.value v) w := fun h => by simp [h]
  cases ho : o.op <;> rw [ho] at h <;> simp only [evalP, reduceCtorEq] at h
  case move x =>
    simp only [Option.some.injEq, Prod.mk.injEq] at h
    obtain ⟨rfl, rfl⟩ := h
    exact ⟨a.eval x, by simp [execOp, ho], opd_den hf hg hv⟩
  case assign x =>
    simp only [Option.some.injEq, Prod.mk.injEq] at h
    obtain ⟨rfl, rfl⟩ := h
    exact ⟨a.eval x, by simp [execOp, ho], opd_den hf hg hv⟩
  case pick c x y =>
    obtain ⟨v, h1, h2⟩ := evPick_sound (P := P) (w := w) hf hg h hv
    refine ⟨v, ?_, h2⟩
    have := fin h1
    simp only [execOp, ho]
    simpa using this
  case nilCheck x => exact evNil_sound hf hg o ho h hv
  case fieldAddr t x f =>
    obtain ⟨v, h1, h2⟩ := evField_sound (w := w) hΓ hf hg h hv
    exact ⟨v, by simp only [execOp, ho]; exact fin h1, h2⟩
  case indexAddr t x i =>
    obtain ⟨v, h1, h2⟩ := evIndexAddr_sound (w := w) hΓ hf hg h hv
    exact ⟨v, by simp only [execOp, ho]; exact fin h1, h2⟩
  case load t x =>
    obtain ⟨v, h1, h2⟩ := evLoad_sound hΓ hf hw hg h hv
    exact ⟨v, by simp only [execOp, ho]; exact fin h1, h2⟩
  case binOp op t x y ty =>
    split at h
    · rename_i r' vc' e1
      simp only [Option.some.injEq, Prod.mk.injEq] at h
      obtain ⟨rfl, rfl⟩ := h
      obtain ⟨v, h1, h2⟩ := bin_sound P w op t (Γ t).d (hΓ t).und x y _ _ E _ _ _ _ (opd_den hf hg hv.2.1) (opd_den hf hg hv.2.2) e1 hv.1
      exact ⟨v, by simp only [execOp, ho]; exact fin h1, h2⟩
    · cases h
  case unOp op t x =>
    split at h
    · rename_i r' e1
      simp only [Option.some.injEq, Prod.mk.injEq] at h
      obtain ⟨rfl, rfl⟩ := h
      obtain ⟨v, h1, h2⟩ := evUn_sound (P := P) (w := w) e1 (opd_den hf hg hv)
      exact ⟨v, by simp only [execOp, ho]; exact fin h1, h2⟩
    · cases h
  case convert s d x =>
    split at h
    · rename_i r' vc' e1
      simp only [Option.some.injEq, Prod.mk.injEq] at h
      obtain ⟨rfl, rfl⟩ := h
      obtain ⟨v, h1, h2⟩ := evConv_sound hΓ hw e1 hv.1 (opd_den hf hg hv.2)
      exact ⟨v, by simp only [execOp, ho]; exact fin h1, h2⟩
    · cases h
  case makeInterface t x =>
    simp only [Option.some.injEq, Prod.mk.injEq] at h
    obtain ⟨rfl, rfl⟩ := h
    obtain ⟨h1, h2, h3⟩ := hv
    refine ⟨.iface t (a.eval x), ?_, by simp only [Den]; exact ⟨_, rfl, opd_den hf hg h1⟩⟩
    have hd := (hΓ t).und
    have : (Instr.makeInterface t (a.eval x)).run P w = .ok (.iface t (a.eval x)) w := by
      cases hd' : (Γ t).d <;> rw [hd'] at hd h2 h3 <;> simp only [TD.ok] at hd
      · exact absurd rfl h2
      case iface => exact absurd rfl h3
      case struct => obtain ⟨f, hd, _⟩ := hd; simp [Instr.makeInterface, run_underlying hd]
      case func => obtain ⟨f, g, h, hd⟩ := hd; simp [Instr.makeInterface, run_underlying hd]
      all_goals simp [Instr.makeInterface, run_underlying hd]
    simp only [execOp, ho]; exact fin this
  case makeFunc f first cap =>
    simp only [Option.some.injEq, Prod.mk.injEq] at h
    obtain ⟨rfl, rfl⟩ := h
    refine ⟨.func f (first.map a.eval) (cap.map a.eval), ?_, ?_⟩
    · simp [execOp, ho, Instr.makeFunc]
    · simp only [Den]
      exact ⟨_, _, by congr 1 <;> (apply Array.ext'; simp), denL_ops hf hg _ hv.1, denL_ops hf hg _ hv.2⟩
  case extract x n =>
    split at h
    · rename_i l e1
      split at h
      · rename_i r' e2
        simp only [Option.some.injEq, Prod.mk.injEq] at h
        obtain ⟨rfl, rfl⟩ := h
        have hd := opd_den hf hg hv
        rw [e1] at hd
        simp only [Den] at hd
        obtain ⟨cs, e, hd⟩ := hd
        rw [nth_eq] at e2
        obtain ⟨v, h1, h2⟩ := denL_getElem _ _ _ _ hd e2
        exact ⟨v, by simp [execOp, ho, Instr.extract, e, h1], h2⟩
      · cases h
    · cases h
  case field t x f =>
    split at h
    · rename_i r' vc' e1
      simp only [Option.some.injEq, Prod.mk.injEq] at h
      obtain ⟨rfl, rfl⟩ := h
      obtain ⟨v, h1, h2⟩ := evFieldV_sound (w := w) hΓ e1 hv.1 (opd_den hf hg hv.2)
      exact ⟨v, by simp only [execOp, ho]; exact fin h1, h2⟩
    · cases h
  case index t x i =>
    split at h
    · rename_i r' vc' e1
      simp only [Option.some.injEq, Prod.mk.injEq] at h
      obtain ⟨rfl, rfl⟩ := h
      obtain ⟨v, h1, h2⟩ := evIndex_sound (w := w) hΓ e1 hv.1 (opd_den hf hg hv.2.1) (opd_den hf hg hv.2.2)
      exact ⟨v, by simp only [execOp, ho]; exact fin h1, h2⟩
    · cases h
  case slice t x lo hi mx =>
    split at h
    · split at h
      · rename_i r' vc' e1
        simp only [Option.some.injEq, Prod.mk.injEq] at h
        obtain ⟨rfl, rfl⟩ := h
        obtain ⟨h1, h2, h3, h4⟩ := hv
        obtain ⟨v, k1, k2⟩ := evSlice_sound (w := w) hΓ (vlo := lo.map a.eval) (vhi := hi.map a.eval) e1 h1 (opd_den hf hg h2)
          (fun y hy => by
            cases lo with
            | none => simp at hy
            | some l => simp at hy; subst hy; exact ⟨_, rfl, opd_den hf hg (by simp only [Option.toList, ovcL] at h3; exact h3.1)⟩)
          (fun hy => by cases lo with
            | none => rfl
            | some l => simp at hy)
          (fun y hy => by
            cases hi with
            | none => simp at hy
            | some l => simp at hy; subst hy; exact ⟨_, rfl, opd_den hf hg (by simp only [Option.toList, ovcL] at h4; exact h4.1)⟩)
          (fun hy => by cases hi with
            | none => rfl
            | some l => simp at hy)
        exact ⟨v, by simp only [execOp, ho]; exact fin k1, k2⟩
      · cases h
    · cases h
  case build t parts =>
    obtain ⟨v, h1, h2⟩ := evBuild_sound (w := w) hΓ hf hg h hv
    exact ⟨v, by simp only [execOp, ho]; exact fin h1, h2⟩
  case call c =>
    split at h
    · rename_i b e1
      split at h
      · rename_i r' vc' e2
        simp only [Option.some.injEq, Prod.mk.injEq] at h
        obtain ⟨rfl, rfl⟩ := h
        have e3 : (List.map a.eval c.args.toList).toArray = c.args.map a.eval := by apply Array.ext'; simp
        simp only [execOp, ho, resolve, e1, Sem.run_bind, Sem.run_pure, Result.andThen_ok, invoke]
        rw [← e3]
        exact evBuiltin_sound (P := P) (w := w) (ty := o.type) hΓ e2 hv.1 (denL_ops hf hg _ hv.2)
      · cases h
    · cases h
end Go.Eng
