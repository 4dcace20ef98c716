/- Texts joined, in order: Jc. -/
import Derived.Test.YtmciepkhpocafaaGreatZGeTab
import Derived.Test.YtmciepkhpocafaaGreatZSbRl
import Derived.Test.YtmciepkhpocafaaGreatZJaKc
/- StreamOwn: the state that follows shares nothing; a Raw that is nil. -/
namespace Go.Proofs.YtmciepkhpocafaaGreat
open Go Go.Eng
set_option maxHeartbeats 4000000
set_option linter.unusedSimpArgs false
set_option linter.unusedVariables false
set_option maxRecDepth 100000

theorem Put_fits (M : RawM) (x : St) (g : M.σ) (c : Int) (hx : x.fits) : (x.Put M g c).1.fits := by
  unfold St.Put
  split
  · exact hx
  · rename_i h
    obtain ⟨hm, _⟩ := bErr_zero (x := x) (by omega)
    have hb := May.bd hm
    have n : ∀ (y : St) (e : Int), y.fits → (y.noted e).fits := fun y e hy => ⟨hy.o, hy.i, hy.k⟩
    have d : ∀ (y : St) (g : M.σ), y.fits → (y.deliver M g).1.fits := fun y g hy => n _ _ ⟨Nat.le_trans (putGo_len M (8193 * (y.o.length + 1)) g y.o 0) hy.o, hy.i, hy.k⟩
    have p1 : ∀ (y : St) (g : M.σ), y.fits → (y.put1 M g c).1.fits := fun y g hy => by
      unfold St.put1
      split
      · exact d _ _ hy
      · exact hy
    unfold St.put
    split
    · exact hx
    · split
      · exact n _ _ ⟨hx.o, hx.i, hx.k⟩
      · split
        · have hl := deliver_o M ({ x with d := 2 } : St) g
          have hd := d ({ x with d := 2 } : St) g ⟨hx.o, hx.i, hx.k⟩
          dsimp only at hl ⊢
          split
          · exact hd
          · refine p1 _ _ ⟨?_, hd.i, hd.k⟩
            simp only [List.length_append, List.length_singleton]
            omega
        · refine p1 _ _ ⟨?_, hx.i, hx.k⟩
          simp only [List.length_append, List.length_singleton]
          omega
/-- A state whose slices sleep, handed on. -/
theorem own_args {x : St} {po pi pk : Option Addr} {co ci ck lo N : Nat} {st : SS} (a b c : Nat) (ha : (a, AndLt N (SleepR lo .u8 po co x.o)) ∈ st.rs) (hb : (b, AndLt N (SleepR lo .u8 pi ci x.i)) ∈ st.rs) (hc : (c, AndLt N (SleepR lo .u8 pk ck x.k)) ∈ st.rs) (rest : List SV) (E : Env) (w : World) (vs : List Value) (hw : Eng.Good E st w) (hv : DenL E (x.rawv (.slice po x.o.length co) (.slice pi x.i.length ci) (.slice pk x.k.length ck) :: rest) vs) : DenL E (x.sv .old :: rest) vs := by
  obtain ⟨v1, r1, rfl, k1, hv⟩ := denL_cons hv
  simp only [DenL]
  exact ⟨St.rawv_den (hw.sleeps (lo := lo) (r := a) (.inr ⟨N, ha⟩)) (hw.sleeps (lo := lo) (r := b) (.inr ⟨N, hb⟩)) (hw.sleeps (lo := lo) (r := c) (.inr ⟨N, hc⟩)) k1, hv⟩
theorem base_args (x : St) (rest : List SV) (E : Env) (Z : Nat → Prop) (hZ : ∀ b, E.w0.heap.size ≤ b → Z b) (vs : List Value) (ho : agL rest = rest) (h : DenL E (x.sv .old :: rest) vs) : DenL { E with Z := Z, hZ := hZ } (x.sv .old :: rest) vs := by
  have := den_agL (E := E) (E' := { E with Z := Z, hZ := hZ }) rfl rfl rfl _ _ h
  simpa [agL, ag, St.sv, St.cells, ho] using this
end Go.Proofs.YtmciepkhpocafaaGreat
