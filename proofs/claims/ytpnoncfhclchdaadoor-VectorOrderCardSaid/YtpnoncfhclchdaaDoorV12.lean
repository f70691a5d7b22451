/- VECTOR, 12: the laws hold. -/
import Derived.Test.YtpnoncfhclchdaaDoorV10
import Derived.Test.YtpnoncfhclchdaaDoorVM
namespace Go.Vec
open Go Go.Am Go.Proofs

theorem check_ok {v : List D} : checkE v = 0 ↔ Ok v := checkE_ok.trans ok_iff
theorem check2_ok {a b : List D} : check2E a b = 0 ↔ Ok a ∧ Ok b := check2E_ok.trans (and_congr ok_iff ok_iff)
theorem joinE_len (a b : List D) : (joinE a b).length ≤ a.length + b.length := by
  unfold joinE
  split
  · exact merge_len a b
  · simp
theorem meetE_len (a b : List D) : (meetE a b).length ≤ a.length + b.length := by
  unfold meetE
  split
  · exact merge_len a b
  · simp
theorem joinE_same (a b : List D) : joinE a b = rjoinE a b := by
  unfold joinE rjoinE
  by_cases h : check2E a b = 0
  · rw [if_pos h, if_pos h, join_same (check2_ok.1 h).1 (check2_ok.1 h).2]
  · rw [if_neg h, if_neg h]
theorem meetE_same (a b : List D) : meetE a b = rmeetE a b := by
  unfold meetE rmeetE
  by_cases h : check2E a b = 0
  · rw [if_pos h, if_pos h, meet_same (check2_ok.1 h).1 (check2_ok.1 h).2]
  · rw [if_neg h, if_neg h]
theorem cmpE_same (a b : List D) : cmpE a b = compE a b := by
  unfold cmpE compE
  by_cases h : check2E a b = 0
  · rw [if_pos h, if_pos h, cmp_same (check2_ok.1 h).1 (check2_ok.1 h).2]
  · rw [if_neg h, if_neg h]
theorem joinE_ok {a b : List D} (ha : Ok a) (hb : Ok b) : Ok (joinE a b) ∧ ∀ dev, atV dev (joinE a b) = gmax (atV dev a) (atV dev b) := by
  have h : check2E a b = 0 := check2_ok.2 ⟨ha, hb⟩
  unfold joinE
  rw [if_pos h]
  exact ⟨merge_ok rule_max ha hb, merge_at rule_max ha hb⟩
theorem meetE_ok {a b : List D} (ha : Ok a) (hb : Ok b) : Ok (meetE a b) ∧ ∀ dev, atV dev (meetE a b) = gmin (atV dev a) (atV dev b) := by
  have h : check2E a b = 0 := check2_ok.2 ⟨ha, hb⟩
  unfold meetE
  rw [if_pos h]
  exact ⟨merge_ok rule_min ha hb, merge_at rule_min ha hb⟩
theorem covers_iff {v : List D} {x y : Int} : coversB v (x, y) = true ↔ 1 ≤ y ∧ y ≤ atV x v := by simp [coversB]

theorem spec_h (v : List D) (dev x y : Int) : CallC P G 3 [vec v, int dev, dot (x, y)] [] (.ret (bool true)) [] := by
  refine spec_w v dev x y ⟨fun h => ⟨fun _ => ⟨?_, fun _ => by simp, fun h' => absurd (joinE_same v [(x, y)]) h'⟩, fun h' => by simp at h'⟩, fun _ => trivial⟩
  have := joinE_len v [(x, y)]
  simp at this
  omega
theorem joins_h (a b : List D) : CallC P G 4 [vec a, vec b] [] (.ret (bool true)) [] := by
  have h1 := joinE_len a b
  have h2 := meetE_len a b
  refine joins_w a b ⟨fun h => ⟨fun h' => ⟨by omega, fun _ => ⟨by omega, fun _ => ⟨fun _ => by simp, fun e => absurd (cmpE_same a b) e⟩, fun e => absurd (meetE_same a b) e⟩, fun e => absurd (joinE_same a b) e⟩, fun _ => trivial⟩, fun _ => trivial⟩
theorem covers_h (a b : List D) (x y : Int) : CallC P G 5 [vec a, vec b, dot (x, y)] [] (.ret (bool true)) [] := by
  have l1 := joinE_len a b
  have l2 := meetE_len a b
  refine covers_l a b x y ⟨fun h => ⟨fun h' => ⟨fun ha => ⟨fun hb => ?_, fun _ => trivial⟩, fun _ => trivial⟩, fun _ => trivial⟩, fun _ => trivial⟩
  have oa := check_ok.1 ha
  have ob := check_ok.1 hb
  obtain ⟨j1, j2⟩ := joinE_ok oa ob
  obtain ⟨m1, m2⟩ := meetE_ok oa ob
  have hj : coversB (joinE a b) (x, y) = (coversB a (x, y) || coversB b (x, y)) := by
    rw [Bool.eq_iff_iff, Bool.or_eq_true, covers_iff, covers_iff, covers_iff, j2]
    unfold gmax; split <;> omega
  have hm : coversB (meetE a b) (x, y) = (coversB a (x, y) && coversB b (x, y)) := by
    rw [Bool.eq_iff_iff, Bool.and_eq_true, covers_iff, covers_iff, covers_iff, m2]
    unfold gmin; split <;> omega
  refine ⟨fun _ => ⟨by omega, fun _ => ⟨by omega, fun _ => ⟨fun ca => ⟨fun _ => ?_, fun e => ?_⟩, fun ca => ⟨fun _ => ?_, fun e => ?_⟩⟩, fun e => absurd (check_ok.2 m1) e⟩, fun e => absurd (check_ok.2 j1) e⟩, fun e => absurd (check2_ok.2 ⟨oa, ob⟩) e⟩
  · rw [hm, ca]; simp
  · rw [hj, ca] at e; simp at e
  · rw [hm, ca]; simp
  · rw [hj, ca] at e; simp at e
end Go.Vec
