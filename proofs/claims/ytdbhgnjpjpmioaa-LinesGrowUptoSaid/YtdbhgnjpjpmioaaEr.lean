/- The engine, part R: a table of types, held against a program. -/
import Derived.Test.YtdbhgnjpjpmioaaEq
namespace Go.Eng
open Go
set_option linter.unusedVariables false
set_option linter.unusedSimpArgs false

def leafB : Value → Value → Bool
  | .int k n, .int k' n' => decide (k = k') && decide (n = n')
  | .bool b, .bool c => b == c
  | .string x, .string y => x.data.toList.isEmpty && y.data.toList.isEmpty
  | .slice none 0 0, .slice none 0 0 => true
  | .pointer none, .pointer none => true
  | .nilIface, .nilIface => true
  | .nilFunc, .nilFunc => true
  | .map none, .map none => true
  | _, _ => false
theorem leafB_sound {x y : Value} (h : leafB x y = true) : x = y := by
  unfold leafB at h
  split at h
  · simp only [Bool.and_eq_true, decide_eq_true_eq] at h; rw [h.1, h.2]
  · simp only [beq_iff_eq] at h; rw [h]
  · simp only [Bool.and_eq_true, List.isEmpty_iff] at h
    rename_i x y
    have e1 : x = ⟨#[]⟩ := by apply ByteArray.ext; apply Array.ext'; exact h.1
    have e2 : y = ⟨#[]⟩ := by apply ByteArray.ext; apply Array.ext'; exact h.2
    rw [e1, e2]
  all_goals first | rfl | (cases h)
def leavesB : List Value → List Value → Bool
  | [], [] => true
  | x :: xs, y :: ys => leafB x y && leavesB xs ys
  | _, _ => false
theorem leavesB_sound : ∀ {l m : List Value}, leavesB l m = true → l = m
  | [], [], _ => rfl
  | x :: xs, y :: ys, h => by
    simp only [leavesB, Bool.and_eq_true] at h
    rw [leafB_sound h.1, leavesB_sound h.2]
  | [], _ :: _, h => by simp [leavesB] at h
  | _ :: _, [], h => by simp [leavesB] at h

def tdB : TD → Option TypeDesc → Bool
  | .none, _ => true
  | .int k, some (.int k') => decide (k = k')
  | .bool, some .bool => true
  | .str, some .string => true
  | .struct fs, some (.struct fields) => decide (fields.toList.map (fun f => (f.offset, f.type)) = fs)
  | .slice e, some (.slice e') => decide (e = e')
  | .arr n e, some (.array n' e') => decide (n = n') && decide (e = e')
  | .ptr e, some (.pointer e') => decide (e = e')
  | .iface, some (.interface _) => true
  | .func, some (.func _ _ _) => true
  | _, _ => false
theorem tdB_sound {d : TD} {x : Option TypeDesc} (h : tdB d x = true) : d.ok x := by
  unfold tdB at h
  split at h <;> simp only [TD.ok]
  · simp only [decide_eq_true_eq] at h; rw [h]
  · simp only [decide_eq_true_eq] at h; exact ⟨_, rfl, h⟩
  · simp only [decide_eq_true_eq] at h; rw [h]
  · simp only [Bool.and_eq_true, decide_eq_true_eq] at h; rw [h.1, h.2]
  · simp only [decide_eq_true_eq] at h; rw [h]
  · exact ⟨_, rfl⟩
  · exact ⟨_, _, _, rfl⟩
  · cases h

def noneB : TD → Bool
  | .none => true
  | _ => false
def tiB (P : Program) (t : TypeId) (ti : TI) : Bool :=
  tdB ti.d (P.underlying t) && (noneB ti.d || (match P.info? t with
    | some i => decide (i.size = ti.size) && decide (i.bytes = ti.bytes) && (match i.zero with | some z => leavesB z.cells.toList ti.zero | none => false)
    | none => false))
theorem tiB_sound {P : Program} {t : TypeId} {ti : TI} (h : tiB P t ti = true) : TIok P t ti := by
  unfold tiB at h
  simp only [Bool.and_eq_true, Bool.or_eq_true] at h
  obtain ⟨h1, h2⟩ := h
  refine ⟨tdB_sound h1, ?_⟩
  rcases h2 with h2 | h2
  · left
    unfold noneB at h2
    split at h2
    · assumption
    · cases h2
  · right
    split at h2
    · rename_i i hi
      simp only [Bool.and_eq_true, decide_eq_true_eq] at h2
      obtain ⟨⟨h3, h4⟩, h5⟩ := h2
      split at h5
      · rename_i z hz
        exact ⟨i, z, hi, h3, h4, hz, leavesB_sound h5⟩
      · cases h5
    · cases h2

def tabB (P : Program) : Nat → List TI → Bool
  | _, [] => true
  | n, ti :: r => tiB P n ti && tabB P (n + 1) r
theorem tabB_sound {P : Program} : ∀ {l : List TI} {n : Nat}, tabB P n l = true → ∀ i ti, l[i]? = some ti → TIok P (n + i) ti
  | [], n, _, i, ti, h => by simp at h
  | x :: r, n, hb, 0, ti, h => by
    simp only [tabB, Bool.and_eq_true] at hb
    simp at h; subst h
    exact tiB_sound hb.1
  | x :: r, n, hb, i + 1, ti, h => by
    simp only [tabB, Bool.and_eq_true] at hb
    have := tabB_sound hb.2 i ti (by simpa using h)
    rwa [show n + 1 + i = n + (i + 1) by omega] at this

def noTI : TI := ⟨.none, 0, 0, []⟩
def tabOf (l : List TI) : Tab := fun t => l.getD t noTI
theorem tabOf_ok {P : Program} {l : List TI} (h : tabB P 0 l = true) : (tabOf l).ok P := by
  intro t
  unfold tabOf
  cases e : l[t]? with
  | none =>
    have : l.getD t noTI = noTI := by simp [List.getD, e]
    rw [this]
    exact ⟨trivial, .inl rfl⟩
  | some ti =>
    have : l.getD t noTI = ti := by simp [List.getD, e]
    rw [this]
    have := tabB_sound h t ti e
    rwa [Nat.zero_add] at this
end Go.Eng
