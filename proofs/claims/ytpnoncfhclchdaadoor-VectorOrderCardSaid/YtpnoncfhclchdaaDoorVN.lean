/- VECTOR, plain law 2: the lattice and its order. -/
import Derived.Test.YtpnoncfhclchdaaDoorV12
namespace Go.Vec
open Go Go.Am

section
variable {a b c : List D} (ha : Ok a) (hb : Ok b) (hc : Ok c)

theorem jOk (ha : Ok a) (hb : Ok b) : Ok (mergeV gmax a b) := merge_ok rule_max ha hb
theorem mOk (ha : Ok a) (hb : Ok b) : Ok (mergeV gmin a b) := merge_ok rule_min ha hb
theorem jAt (ha : Ok a) (hb : Ok b) (d : Int) : atV d (mergeV gmax a b) = gmax (atV d a) (atV d b) := merge_at rule_max ha hb d
theorem mAt (ha : Ok a) (hb : Ok b) (d : Int) : atV d (mergeV gmin a b) = gmin (atV d a) (atV d b) := merge_at rule_min ha hb d

theorem j_comm (ha : Ok a) (hb : Ok b) : mergeV gmax a b = mergeV gmax b a := ok_ext (jOk ha hb) (jOk hb ha) fun d => by
  rw [jAt ha hb, jAt hb ha]; unfold gmax; split <;> split <;> omega
theorem m_comm (ha : Ok a) (hb : Ok b) : mergeV gmin a b = mergeV gmin b a := ok_ext (mOk ha hb) (mOk hb ha) fun d => by
  rw [mAt ha hb, mAt hb ha]; unfold gmin; split <;> split <;> omega
theorem j_assoc (ha : Ok a) (hb : Ok b) (hc : Ok c) : mergeV gmax (mergeV gmax a b) c = mergeV gmax a (mergeV gmax b c) := ok_ext (jOk (jOk ha hb) hc) (jOk ha (jOk hb hc)) fun d => by
  rw [jAt (jOk ha hb) hc, jAt ha (jOk hb hc), jAt ha hb, jAt hb hc]
  unfold gmax
  by_cases h1 : atV d b > atV d a <;> by_cases h2 : atV d c > atV d b <;> by_cases h3 : atV d c > atV d a <;> simp only [h1, h2, h3, if_true, if_false] <;> first | rfl | omega | (split <;> omega)
theorem m_assoc (ha : Ok a) (hb : Ok b) (hc : Ok c) : mergeV gmin (mergeV gmin a b) c = mergeV gmin a (mergeV gmin b c) := ok_ext (mOk (mOk ha hb) hc) (mOk ha (mOk hb hc)) fun d => by
  rw [mAt (mOk ha hb) hc, mAt ha (mOk hb hc), mAt ha hb, mAt hb hc]
  unfold gmin
  by_cases h1 : atV d b < atV d a <;> by_cases h2 : atV d c < atV d b <;> by_cases h3 : atV d c < atV d a <;> simp only [h1, h2, h3, if_true, if_false] <;> first | rfl | omega | (split <;> omega)
theorem j_self (ha : Ok a) : mergeV gmax a a = a := ok_ext (jOk ha ha) ha fun d => by
  rw [jAt ha ha]; unfold gmax; split <;> omega
theorem m_self (ha : Ok a) : mergeV gmin a a = a := ok_ext (mOk ha ha) ha fun d => by
  rw [mAt ha ha]; unfold gmin; split <;> omega
theorem m_up (ha : Ok a) (hb : Ok b) : mergeV gmin a (mergeV gmax a b) = a := ok_ext (mOk ha (jOk ha hb)) ha fun d => by
  rw [mAt ha (jOk ha hb), jAt ha hb]; unfold gmax gmin; split <;> split <;> omega
theorem j_down (ha : Ok a) (hb : Ok b) : mergeV gmax a (mergeV gmin a b) = a := ok_ext (jOk ha (mOk ha hb)) ha fun d => by
  rw [jAt ha (mOk ha hb), mAt ha hb]; unfold gmax gmin; split <;> split <;> omega

theorem cmp_le (ha : Ok a) (hb : Ok b) : (cmpV a b = -1 ∨ cmpV a b = 0) ↔ Le a b := by
  rw [← not_more ha hb]
  unfold cmpV
  cases lessV a b <;> cases moreV a b <;> simp
theorem cmp_ge (ha : Ok a) (hb : Ok b) : (cmpV a b = 1 ∨ cmpV a b = 0) ↔ Le b a := by
  rw [← not_less ha hb]
  unfold cmpV
  cases lessV a b <;> cases moreV a b <;> simp
theorem cmp_range (a b : List D) : -1 ≤ cmpV a b ∧ cmpV a b ≤ 2 := by
  unfold cmpV
  cases lessV a b <;> cases moreV a b <;> simp
theorem less_more (ha : Ok a) (hb : Ok b) : lessV b a = moreV a b := by
  rw [Bool.eq_iff_iff, less_iff hb ha, more_iff ha hb]
theorem cmp_swap (ha : Ok a) (hb : Ok b) : cmpV a b = 2 ∧ cmpV b a = 2 ∨ ¬ cmpV a b = 2 ∧ cmpV b a = - cmpV a b := by
  unfold cmpV
  rw [less_more ha hb, show moreV b a = lessV a b from (less_more hb ha).symm]
  cases lessV a b <;> cases moreV a b <;> simp
theorem le_antisymm (ha : Ok a) (hb : Ok b) (h : Le a b) (k : Le b a) : a = b := ok_ext ha hb fun d => by have := h d; have := k d; omega
theorem cmp_zero (ha : Ok a) (hb : Ok b) : cmpV a b = 0 ↔ a = b := by
  constructor
  · intro h
    exact le_antisymm ha hb ((cmp_le ha hb).1 (.inr h)) ((cmp_ge ha hb).1 (.inr h))
  · rintro rfl
    have h1 := (cmp_le ha ha).2 fun d => Int.le_refl _
    have h2 := (cmp_ge ha ha).2 fun d => Int.le_refl _
    omega
theorem join_le (ha : Ok a) (hb : Ok b) : mergeV gmax a b = b ↔ Le a b := by
  constructor
  · intro h d
    have := jAt ha hb d
    rw [h] at this
    unfold gmax at this
    split at this <;> omega
  · intro h
    refine ok_ext (jOk ha hb) hb fun d => ?_
    rw [jAt ha hb]
    have := h d
    unfold gmax; split <;> omega
theorem meet_le (ha : Ok a) (hb : Ok b) : mergeV gmin a b = a ↔ Le a b := by
  constructor
  · intro h d
    have := mAt ha hb d
    rw [h] at this
    unfold gmin at this
    split at this <;> omega
  · intro h
    refine ok_ext (mOk ha hb) ha fun d => ?_
    rw [mAt ha hb]
    have := h d
    unfold gmin; split <;> omega
theorem le_join (ha : Ok a) (hb : Ok b) : Le (mergeV gmax a b) c ↔ Le a c ∧ Le b c := by
  constructor
  · intro h
    exact ⟨fun d => by have := h d; rw [jAt ha hb] at this; unfold gmax at this; split at this <;> omega, fun d => by have := h d; rw [jAt ha hb] at this; unfold gmax at this; split at this <;> omega⟩
  · rintro ⟨h, k⟩ d
    have := h d
    have := k d
    rw [jAt ha hb]; unfold gmax; split <;> omega
theorem le_meet (ha : Ok a) (hb : Ok b) : Le c (mergeV gmin a b) ↔ Le c a ∧ Le c b := by
  constructor
  · intro h
    exact ⟨fun d => by have := h d; rw [mAt ha hb] at this; unfold gmin at this; split at this <;> omega, fun d => by have := h d; rw [mAt ha hb] at this; unfold gmin at this; split at this <;> omega⟩
  · rintro ⟨h, k⟩ d
    have := h d
    have := k d
    rw [mAt ha hb]; unfold gmin; split <;> omega
theorem le_trans' (h : Le a b) (k : Le b c) : Le a c := fun d => Int.le_trans (h d) (k d)
end
end Go.Vec
