/- VECTOR, 18: Lattice and Least hold. -/
import Derived.Test.YtpnoncfhclchdaaDoorV14
import Derived.Test.YtpnoncfhclchdaaDoorV16
namespace Go.Vec
open Go Go.Am Go.Proofs

theorem cases3 {C : Prop} (a b c : List D) (n1 : 600 < a.length → C) (n2 : a.length ≤ 600 → 600 < b.length → C) (n3 : a.length ≤ 600 → b.length ≤ 600 → 600 < c.length → C)
    (b1 : a.length ≤ 600 → b.length ≤ 600 → c.length ≤ 600 → ¬ checkE a = 0 → C) (b2 : a.length ≤ 600 → b.length ≤ 600 → c.length ≤ 600 → checkE a = 0 → ¬ checkE b = 0 → C) (b3 : a.length ≤ 600 → b.length ≤ 600 → c.length ≤ 600 → checkE a = 0 → checkE b = 0 → ¬ checkE c = 0 → C)
    (v : a.length ≤ 600 → b.length ≤ 600 → c.length ≤ 600 → Ok a → Ok b → Ok c → C) : C := by
  rcases Nat.lt_or_ge 600 a.length with h | la
  · exact n1 h
  rcases Nat.lt_or_ge 600 b.length with h | lb
  · exact n2 la h
  rcases Nat.lt_or_ge 600 c.length with h | lc
  · exact n3 la lb h
  by_cases h1 : checkE a = 0
  · by_cases h2 : checkE b = 0
    · by_cases h3 : checkE c = 0
      · exact v la lb lc (check_ok.1 h1) (check_ok.1 h2) (check_ok.1 h3)
      · exact b3 la lb lc h1 h2 h3
    · exact b2 la lb lc h1 h2
  · exact b1 la lb lc h1

theorem lattice_h (a b c : List D) : CallC P G 6 [vec a, vec b, vec c] [] (.ret (bool true)) [] :=
  cases3 a b c (fun h => lattice_n1 a b c h trivial) (fun la h => lattice_n2 a b c la h trivial) (fun la lb h => lattice_n3 a b c la lb h trivial) (fun la lb lc h => lattice_b1 a b c la lb lc h trivial)
    (fun la lb lc h1 h => lattice_b2 a b c la lb lc h1 h trivial) (fun la lb lc h1 h2 h => lattice_b3 a b c la lb lc h1 h2 h trivial) (lattice_v a b c)
theorem least_h (a b c : List D) : CallC P G 8 [vec a, vec b, vec c] [] (.ret (bool true)) [] :=
  cases3 a b c (fun h => least_n1 a b c h trivial) (fun la h => least_n2 a b c la h trivial) (fun la lb h => least_n3 a b c la lb h trivial) (fun la lb lc h => least_b1 a b c la lb lc h trivial)
    (fun la lb lc h1 h => least_b2 a b c la lb lc h1 h trivial) (fun la lb lc h1 h2 h => least_b3 a b c la lb lc h1 h2 h trivial) (least_v a b c)
end Go.Vec
