/- VECTOR, 13: With adds exactly the operations up to a dot. -/
import Derived.Test.YtpnoncfhclchdaaDoorV12
namespace Go.Vec
open Go Go.Am Go.Proofs

theorem ok_one {x y : Int} (h : isDotB (x, y) = true) : Ok [(x, y)] := ⟨fun d hd => by rw [List.mem_singleton.1 hd]; exact h, List.pairwise_singleton _ _⟩
theorem adds_h (v : List D) (x y z w : Int) : CallC P G 9 [vec v, dot (x, y), dot (z, w)] [] (.ret (bool true)) [] := by
  have l1 : (joinE v [(x, y)]).length ≤ v.length + 1 := joinE_len v [(x, y)]
  refine adds_w v x y z w ⟨fun h => ⟨fun hv => ⟨fun hd => ?_, fun _ => trivial⟩, fun _ => trivial⟩, fun _ => trivial⟩
  have ov := check_ok.1 hv
  have od := ok_one hd
  obtain ⟨j1, j2⟩ := joinE_ok ov od
  have at1 : ∀ dev, atV dev [(x, y)] = if x = dev then y else 0 := fun dev => rfl
  have dots := isDot_iff.1 hd
  simp only at dots
  have r := atV_range ov x
  have hJ2 : atV x (joinE v [(x, y)]) = if y > atV x v then y else atV x v := by rw [j2, at1, if_pos rfl]; rfl
  have hJ1 : coversB (joinE v [(x, y)]) (x, y) = true := by
    rw [covers_iff, hJ2]
    split <;> omega
  have hJ3 : coversB (joinE v [(x, y)]) (z, w) = (coversB v (z, w) || (decide (z = x) && decide (w ≥ 1) && decide (w ≤ y))) := by
    have rz := atV_range ov z
    rw [Bool.eq_iff_iff, Bool.or_eq_true, Bool.and_eq_true, Bool.and_eq_true, covers_iff, covers_iff, j2, at1]
    simp only [decide_eq_true_eq]
    unfold gmax
    by_cases hz : x = z
    · rw [if_pos hz]; split <;> omega
    · rw [if_neg hz]; split <;> omega
  refine ⟨fun _ => ⟨by omega, fun _ => ?_, fun e => absurd (check_ok.2 j1) e⟩, fun e => absurd (check2_ok.2 ⟨ov, od⟩) e⟩
  simp only [hJ1, hJ2, hJ3]
  by_cases hz : z = x <;> by_cases hw : w ≥ 1 <;> cases hc : coversB v (z, w) <;> simp [hz, hw]
end Go.Vec
