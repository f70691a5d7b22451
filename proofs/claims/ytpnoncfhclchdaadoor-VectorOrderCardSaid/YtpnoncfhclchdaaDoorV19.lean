/- VECTOR, 19: Order holds. -/
import Derived.Test.YtpnoncfhclchdaaDoorV18
import Derived.Test.YtpnoncfhclchdaaDoorV15
import Derived.Test.YtpnoncfhclchdaaDoorV17
namespace Go.Vec
open Go Go.Am Go.Proofs

theorem cmp_k {a b : List D} {z : Int} (ha : a.length ≤ 1000000000) (hb : b.length ≤ 1000000000) (oa : Ok a) (ob : Ok b) (h : cmpV a b = z) : CallC P G 25 [vec a, vec b] [] (.ret (.tup [int z, int 0])) [] := by
  have := cmp_c a b ha hb
  have hc := check2_ok.2 ⟨oa, ob⟩
  unfold cmpE at this
  rw [if_pos hc, hc, h] at this
  exact this
theorem join_k {a b : List D} (ha : a.length ≤ 1000000000) (hb : b.length ≤ 1000000000) (oa : Ok a) (ob : Ok b) : CallC P G 21 [vec a, vec b] [] (.ret (.tup [vec (mergeV gmax a b), int 0])) [] := by
  have := join_c a b ha hb
  have hc := check2_ok.2 ⟨oa, ob⟩
  unfold joinE at this
  rw [if_pos hc, hc] at this
  exact this
theorem meet_k {a b : List D} (ha : a.length ≤ 1000000000) (hb : b.length ≤ 1000000000) (oa : Ok a) (ob : Ok b) : CallC P G 23 [vec a, vec b] [] (.ret (.tup [vec (mergeV gmin a b), int 0])) [] := by
  have := meet_c a b ha hb
  have hc := check2_ok.2 ⟨oa, ob⟩
  unfold meetE at this
  rw [if_pos hc, hc] at this
  exact this
theorem same_k {a b : List D} {z : Bool} (ha : a.length ≤ 1000000000) (h : z = true ↔ a = b) : CallC P G 20 [vec a, vec b] [] (.ret (bool z)) [] := by
  have := same_c a b ha
  rw [show decide (a = b) = z by rw [Bool.eq_iff_iff, decide_eq_true_iff, h]] at this
  exact this
theorem check_k {a : List D} (ha : a.length ≤ 1000000000) (oa : Ok a) : CallC P G 14 [vec a] [] (.ret (int 0)) [] := (check_ok.2 oa) ▸ check_c a ha

theorem order_v (a b c : List D) (la : a.length ≤ 600) (lb : b.length ≤ 600) (lc : c.length ≤ 600) (oa : Ok a) (ob : Ok b) (oc : Ok c) : CallC P G 7 [vec a, vec b, vec c] [] (.ret (bool true)) [] := by
  have ha : a.length ≤ 1000000000 := by omega
  have hb : b.length ≤ 1000000000 := by omega
  have hc : c.length ≤ 1000000000 := by omega
  have hj : (mergeV gmax a b).length ≤ 1000000000 := by have := merge_len (tk := gmax) a b; omega
  have hm : (mergeV gmin a b).length ≤ 1000000000 := by have := merge_len (tk := gmin) a b; omega
  have hr := cmp_range a b
  have hsw := cmp_swap oa ob
  have hz := cmp_zero oa ob
  have hle := cmp_le oa ob
  have hjl := join_le oa ob
  have hml := meet_le oa ob
  have hx : (cmpV a b = -1 ∨ cmpV a b = 0) → cmpV b c = -1 ∨ cmpV b c = 0 → cmpV a c = -1 ∨ cmpV a c = 0 := fun h k =>
    (cmp_le oa oc).2 (le_trans' (hle.1 h) ((cmp_le ob oc).1 k))
  have hlt : ∀ {z : Int}, cmpV a b = z → z = 1 ∨ z = 2 → ¬ Le a b := fun h k h1 => by have := hle.2 h1; omega
  have four : cmpV a b = -1 ∨ cmpV a b = 0 ∨ cmpV a b = 1 ∨ cmpV a b = 2 := by omega
  rcases four with h | h | h | h
  · refine order_le a b c _ _ _ _ la lb lc (check_k ha oa) (check_k hb ob) (check_k hc oc) (cmp_k ha hb oa ob h) (cmp_k hb ha ob oa (by omega)) (cmp_k hb hc ob oc rfl) (cmp_k ha hc oa oc rfl) (join_k ha hb oa ob) (meet_k ha hb oa ob)
      (same_k ha (by rw [← hz]; simp [h])) (same_k hj (by simp [hjl, ← hle, h])) (same_k hm (by simp [hml, ← hle, h])) (hx (.inl h)) ?_
    have := hx (.inl h)
    refine ⟨fun e => ⟨fun _ => trivial, fun e' => by simpa using (this (.inl e)).resolve_left e'⟩, fun _ => ⟨fun e => ⟨fun _ => trivial, fun e' => by simpa using (this (.inr e)).resolve_left e'⟩, fun _ => trivial⟩⟩
  · refine order_eq a b c _ _ _ _ la lb lc (check_k ha oa) (check_k hb ob) (check_k hc oc) (cmp_k ha hb oa ob h) (cmp_k hb ha ob oa (by omega)) (cmp_k hb hc ob oc rfl) (cmp_k ha hc oa oc rfl) (join_k ha hb oa ob) (meet_k ha hb oa ob)
      (same_k ha (by simp [← hz, h])) (same_k hj (by simp [hjl, ← hle, h])) (same_k hm (by simp [hml, ← hle, h])) (hx (.inr h)) ?_
    have := hx (.inr h)
    refine ⟨fun e => ⟨fun _ => trivial, fun e' => by simpa using (this (.inl e)).resolve_left e'⟩, fun _ => ⟨fun e => ⟨fun _ => trivial, fun e' => by simpa using (this (.inr e)).resolve_left e'⟩, fun _ => trivial⟩⟩
  · exact order_ge a b c _ _ _ _ la lb lc (check_k ha oa) (check_k hb ob) (check_k hc oc) (cmp_k ha hb oa ob h) (cmp_k hb ha ob oa (by omega)) (cmp_k hb hc ob oc rfl) (cmp_k ha hc oa oc rfl) (join_k ha hb oa ob) (meet_k ha hb oa ob)
      (same_k ha (by rw [← hz]; simp [h])) (same_k hj (by simp [hjl, hlt h])) (same_k hm (by simp [hml, hlt h])) trivial
  · exact order_no a b c _ _ _ _ la lb lc (check_k ha oa) (check_k hb ob) (check_k hc oc) (cmp_k ha hb oa ob h) (cmp_k hb ha ob oa (by omega)) (cmp_k hb hc ob oc rfl) (cmp_k ha hc oa oc rfl) (join_k ha hb oa ob) (meet_k ha hb oa ob)
      (same_k ha (by rw [← hz]; simp [h])) (same_k hj (by simp [hjl, hlt h])) (same_k hm (by simp [hml, hlt h])) trivial

theorem order_h (a b c : List D) : CallC P G 7 [vec a, vec b, vec c] [] (.ret (bool true)) [] :=
  cases3 a b c (fun h => order_n1 a b c h trivial) (fun la h => order_n2 a b c la h trivial) (fun la lb h => order_n3 a b c la lb h trivial) (fun la lb lc h => order_b1 a b c la lb lc h trivial)
    (fun la lb lc h1 h => order_b2 a b c la lb lc h1 h trivial) (fun la lb lc h1 h2 h => order_b3 a b c la lb lc h1 h2 h trivial) (order_v a b c)
end Go.Vec
