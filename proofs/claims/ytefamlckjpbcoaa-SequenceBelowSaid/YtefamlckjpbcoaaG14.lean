import Derived.Test.YtefamlckjpbcoaaG13
import Derived.Sort.Grow
import Derived.Deep.Draws
set_option maxRecDepth 100000
set_option linter.unusedSimpArgs false
set_option linter.unusedVariables false
/- THE ABSTRACT MACHINE, 30: where all memory is data, what a call leaves behind is the old world grown. -/
namespace Go.Am
open Go
theorem step_grow {V V' : View} (hs : Step V V') (hM : ∀ b, ¬ V.M b) : ∃ q os', V'.w = Sort.grow (V.w.drewN q) os' := by
  refine ⟨V'.w.drawn - V.w.drawn, V'.w.heap.extract V.w.heap.size V'.w.heap.size, ?_⟩
  have hd := hs.drawn
  have hh : V'.w.heap = V.w.heap ++ V'.w.heap.extract V.w.heap.size V'.w.heap.size := by
    apply Array.ext_getElem?
    intro i
    by_cases h : i < V.w.heap.size
    · rw [Array.getElem?_append_left h]
      exact (hs.data i h (hM i)).1
    · rw [Array.getElem?_append_right (by omega), Array.getElem?_extract]
      have hz := hs.size
      by_cases h2 : i < V'.w.heap.size
      · rw [if_pos (by omega)]; congr 1; omega
      · rw [if_neg (by omega), Array.getElem?_eq_none (by omega)]
  have h1 := hs.os; have h2 := hs.tape; have h3 := hs.output
  generalize V'.w = w' at *
  cases w' with
  | mk heap tape drawn os output =>
  simp only at hh hd h1 h2 h3
  subst h1 h2 h3
  simp only [Sort.grow, World.drewN]
  rw [← hh]
  congr 1
  omega
theorem grow_calls {P : Program} {G : Nat → Option (List AV)} {f : FuncId} {xs : List AV} {args : Array Value} {W : World} {y : AV} (hc : CallC P G f xs [] (.ret y) []) (hG : ∀ g cs, G g = some cs → PRep W (fun _ => False) (.imm cs) (.pointer (some ⟨g, 0, none⟩)))
    (hx : Reps (view0 W) xs args.toList) : Calls P f args W fun e W' => ∃ v q os', e = .returned v ∧ (∃ V' : View, V'.w = W' ∧ Rep V' y v) ∧ W' = Sort.grow (W.drewN q) os' := by
  have h0 : HeapRep G (view0 W) := ⟨fun _ h => absurd h (by simp [view0]), fun _ _ h => by simp [view0] at h, fun _ _ h => absurd h (by simp [view0]), fun _ _ h => by simp [view0] at h, hG⟩
  have h := hc (view0 W) args.toList rfl h0 hx
  have ea : args.toList.toArray = args := by simp
  rw [ea] at h
  exact (h.calls room_wide).mono fun e w' he => by
    obtain ⟨V', rfl, k2, k3, k4, k5⟩ := he
    obtain ⟨q, os', hg⟩ := step_grow k2 (fun _ h => h)
    cases e with
    | returned v => exact ⟨v, q, os', rfl, ⟨V', rfl, k5⟩, hg⟩
    | panicked _ => exact k5.elim
    | outgrown => exact k5.elim
end Go.Am
