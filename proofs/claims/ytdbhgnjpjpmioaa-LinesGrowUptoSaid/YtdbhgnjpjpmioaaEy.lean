/- The engine, part Y: a method of an interface value. -/
import Derived.Test.YtdbhgnjpjpmioaaEx
namespace Go.Eng
open Go
set_option linter.unusedVariables false
set_option linter.unusedSimpArgs false

/-- Whatever pointer the interface value of type t holds, its method of that name is f's, on that pointer. -/
def MethodIs (P : Program) (t : TypeId) (name : String) (f : FuncId) : Prop :=
  ∀ b off w, (Go.method (P.types.size + Made.depth) t (.pointer (some ⟨b, off, none⟩)) name).run P w = .ok (f, .pointer (some ⟨b, off, none⟩)) w

def methodB (P : Program) (t : TypeId) (name : String) (f : FuncId) : Bool :=
  (match P.info? t with
    | some i => (match i.methods.find? (·.name == name) with
      | some m => m.path.toList.isEmpty && (match m.func with | some (g, true) => g == f | _ => false)
      | none => false)
    | none => false) && (match P.underlying t with | some (.pointer _) => true | _ => false)

theorem methodIs_of {P : Program} {t : TypeId} {name : String} {f : FuncId} (h : methodB P t name f = true) : MethodIs P t name f := by
  intro b off w
  unfold methodB at h
  rw [Bool.and_eq_true] at h
  obtain ⟨h1, h2⟩ := h
  split at h1
  · rename_i i hi
    split at h1
    · rename_i m hm
      rw [Bool.and_eq_true] at h1
      obtain ⟨h3, h4⟩ := h1
      split at h4
      · rename_i g hg
        have hg' : g = f := by simpa using h4
        subst hg'
        split at h2
        · rename_i e he
          have hp : m.path.toList = [] := by simpa using h3
          rw [show P.types.size + Made.depth = (P.types.size + (Made.depth - 1)) + 1 by unfold Made.depth; omega]
          simp only [Go.method, Sem.run_bind]
          have h5 : (typeInfo t).run P w = .ok i w := by simp [typeInfo, hi]
          rw [h5]
          simp only [Result.andThen_ok, hm, Sem.run_bind, hp, Go.follow, Sem.run_pure, hg]
          have h6 : ∀ x, (Go.receiverAt t (.val (.pointer (some ⟨b, off, none⟩))) true x).run P w = .ok (.pointer (some ⟨b, off, none⟩)) w := fun x => by
            simp [Go.receiverAt, run_underlying he, Place.get]
          rw [h6]
          rfl
        · cases h2
      · cases h4
    · cases h1
  · cases h1

theorem inv_of {P : Program} {t : TypeId} {name : String} {f : FuncId} (hm : MethodIs P t name f) {n o : Nat} {args : List SV} {st : SS} {K : SV → SS → Prop} (h : CallOK P f (.ptr n o :: args) st K) : InvOK P (.ifc t (.ptr n o)) name args st K := by
  intro E w r vs hw hr hv
  simp only [Den] at hr
  obtain ⟨y, rfl, b, hb, rfl⟩ := hr
  obtain ⟨k1, k2⟩ := h E w (.pointer (some ⟨b, o, none⟩) :: vs) hw (by simp only [DenL, Den]; exact ⟨⟨b, hb, rfl⟩, hv⟩)
  refine ⟨f, (.pointer (some ⟨b, o, none⟩) :: vs).toArray, ?_, k2⟩
  rw [← k1]
  simp only [callMethod, Sem.run_bind, run_program, Result.andThen_ok, hm b o w]
  congr 2
  apply Array.ext'; simp
end Go.Eng
namespace Go.Eng
open Go
theorem mem_distincts : ∀ l : List Nat, l.Nodup → distincts l
  | [], _ => trivial
  | m :: r, h => by
    rw [List.nodup_cons] at h
    exact ⟨fun x hx e => h.1 (by rw [e]; exact hx), mem_distincts r h.2⟩
theorem mem_allLt {nx : Nat} : ∀ l : List Nat, (∀ x ∈ l, x < nx) → allLt nx l
  | [], _ => trivial
  | m :: r, h => ⟨h m (by simp), mem_allLt r fun x hx => h x (by simp [hx])⟩
theorem fmap_get : ∀ (l : List Nat) (nx n : Nat) (h : n < l.length), fmap l nx n = l[n]
  | m :: r, nx, 0, h => rfl
  | m :: r, nx, n + 1, h => by simp only [fmap, List.getElem_cons_succ]; exact fmap_get r nx n (by simpa using h)
theorem fmap_range (N : Nat) : fmap (List.range N) N = fun n => n := by
  funext n
  rcases Nat.lt_or_ge n N with h | h
  · rw [fmap_get _ _ _ (by simpa using h)]; simp
  · rw [fmap_ge _ _ _ (by simpa using h)]; simp; omega
theorem idTo_range (N : Nat) : ∀ k, idTo (List.range N) N k
  | 0 => trivial
  | k + 1 => ⟨by rw [fmap_range], idTo_range N k⟩

/-- The end where no name has turned. -/
theorem Fin.ids {R : SV → SS → Prop} {sv : SV} {s : SS} (psv : SV) (post : SS) (h1 : post.nx = s.nx) (h2 : post.k = s.k) (h3 : s.k ≤ s.nx)
    (h : W false (fun n => n) psv sv ∧ hpSub false (fun n => n) s.hp post.hp ∧ tkSub (fun n => n) s.tk post.tk ∧ rsSub (fun n => n) s.rs post.rs) (hR : R psv post) : Fin R sv s := by
  refine .inl ⟨List.range s.nx, psv, post, ⟨mem_distincts _ List.nodup_range, mem_allLt _ (fun x hx => List.mem_range.1 hx), by simp [h1], h2, by rw [h1, h2]; exact h3, idTo_range _ _⟩, ?_⟩
  rw [fmap_range]
  exact ⟨h.1, h.2.1, h.2.2.1, h.2.2.2, hR⟩
theorem W_same : ∀ x : SV, W false (fun n => n) x x := W_self fun _ => rfl
end Go.Eng
