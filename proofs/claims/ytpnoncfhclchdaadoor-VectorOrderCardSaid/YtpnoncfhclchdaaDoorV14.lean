/- VECTOR, 14: Lattice and Least hold for valid vectors. -/
import Derived.Test.YtpnoncfhclchdaaDoorVN
import Derived.Test.YtpnoncfhclchdaaDoorV11
namespace Go.Vec
open Go Go.Am Go.Proofs

theorem lattice_v (a b c : List D) (la : a.length ≤ 600) (lb : b.length ≤ 600) (lc : c.length ≤ 600) (oa : Ok a) (ob : Ok b) (oc : Ok c) : CallC P G 6 [vec a, vec b, vec c] [] (.ret (bool true)) [] := by
  have jl := fun p (x y : List D) => merge_len (tk := p) x y
  have j1 := jl gmax a b
  have j2 := jl gmax b c
  have j3 := jl gmax (mergeV gmax a b) c
  have j4 := jl gmax a a
  have j5 := jl gmin a b
  have j6 := jl gmin b c
  have j7 := jl gmin (mergeV gmin a b) c
  have j8 := jl gmin a a
  have j9 := jl gmin a (mergeV gmax a b)
  have j0 := jl gmax a (mergeV gmin a b)
  refine lattice_w a b c la lb lc ⟨check_ok.2 oa, check_ok.2 ob, check_ok.2 oc, check2_ok.2 ⟨oa, ob⟩, check2_ok.2 ⟨ob, oa⟩, check2_ok.2 ⟨ob, oc⟩, by omega, check2_ok.2 ⟨jOk oa ob, oc⟩, by omega, check2_ok.2 ⟨oa, jOk ob oc⟩, check2_ok.2 ⟨oa, oa⟩, j_comm oa ob, by omega, j_assoc oa ob oc, by omega, j_self oa, by omega, check2_ok.2 ⟨mOk oa ob, oc⟩, by omega, check2_ok.2 ⟨oa, mOk ob oc⟩, check2_ok.2 ⟨oa, jOk oa ob⟩, check2_ok.2 ⟨oa, mOk oa ob⟩, m_comm oa ob, by omega, m_assoc oa ob oc, by omega, m_self oa, by omega, m_up oa ob, by omega, j_down oa ob, trivial⟩

theorem least_v (a b c : List D) (la : a.length ≤ 600) (lb : b.length ≤ 600) (lc : c.length ≤ 600) (oa : Ok a) (ob : Ok b) (oc : Ok c) : CallC P G 8 [vec a, vec b, vec c] [] (.ret (bool true)) [] := by
  have j1 := merge_len (tk := gmax) a b
  have j5 := merge_len (tk := gmin) a b
  refine least_w a b c la lb lc ⟨check_ok.2 oa, check_ok.2 ob, check_ok.2 oc, check2_ok.2 ⟨oa, ob⟩, check2_ok.2 ⟨oa, oc⟩, check2_ok.2 ⟨ob, oc⟩, by omega, check2_ok.2 ⟨jOk oa ob, oc⟩, by omega, check2_ok.2 ⟨mOk oa ob, oc⟩, ?_⟩
  have hj : (cmpV (mergeV gmax a b) c = -1 ∨ cmpV (mergeV gmax a b) c = 0) ↔ (cmpV a c = -1 ∨ cmpV a c = 0) ∧ (cmpV b c = -1 ∨ cmpV b c = 0) := by
    rw [cmp_le (jOk oa ob) oc, cmp_le oa oc, cmp_le ob oc, le_join oa ob]
  have hm : (cmpV (mergeV gmin a b) c = 1 ∨ cmpV (mergeV gmin a b) c = 0) ↔ (cmpV a c = 1 ∨ cmpV a c = 0) ∧ (cmpV b c = 1 ∨ cmpV b c = 0) := by
    rw [cmp_ge (mOk oa ob) oc, cmp_ge oa oc, cmp_ge ob oc, le_meet oa ob]
  have hx := cmp_range a c
  have hy := cmp_range b c
  have hp := cmp_range (mergeV gmax a b) c
  have hq := cmp_range (mergeV gmin a b) c
  generalize cmpV a c = x at *
  generalize cmpV b c = y at *
  generalize cmpV (mergeV gmax a b) c = p at *
  generalize cmpV (mergeV gmin a b) c = q at *
  have four : ∀ z : Int, -1 ≤ z ∧ z ≤ 2 → z = -1 ∨ z = 0 ∨ z = 1 ∨ z = 2 := fun z h => by omega
  rcases four x hx with rfl | rfl | rfl | rfl <;> rcases four y hy with rfl | rfl | rfl | rfl <;> rcases four p hp with rfl | rfl | rfl | rfl <;>
    first
    | (exfalso; clear hm; omega)
    | (rcases four q hq with rfl | rfl | rfl | rfl <;> first | (exfalso; omega) | simp)
end Go.Vec
