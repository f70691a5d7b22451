import Derived.Test.YtflocgjejaoeiaaG9
import Derived.Test.YtflocgjejaoeiaaProg
/- The seat: its program; what its package's variables hold. -/
namespace Go.Seat
set_option maxRecDepth 100000
set_option linter.unusedSimpArgs false
set_option linter.unusedVariables false
open Go Go.Am Go.Proofs

noncomputable abbrev P : Program := Try.prog
def G (_ : Nat) : Option (List AV) := none
end Go.Seat

/- VECTOR, 0: how its data stand in the abstract machine. -/
namespace Go.Vec
set_option maxRecDepth 100000
set_option linter.unusedSimpArgs false
set_option linter.unusedVariables false
open Go Go.Am Go.Proofs Go.Seat

abbrev D := Int × Int
def enc (d : D) : List AV := [int d.1, int d.2]
def encs (v : List D) : List (List AV) := v.map enc
def vec (v : List D) : AV := .sl 2 false (encs v)
def dot (d : D) : AV := .agg (enc d)

theorem encs_length (v : List D) : (encs v).length = v.length := by simp [encs]
theorem encs_get {v : List D} {k : Nat} (h : k < v.length) : (encs v)[k]? = some (enc v[k]) := by simp [encs, h]
theorem encs_get? (v : List D) (k : Nat) : (encs v)[k]? = (v[k]?).map enc := by simp [encs]
theorem encs_one (a b : Int) : [[AV.lit (Value.int IntKind.i64 a), AV.lit (Value.int IntKind.i64 b)]] = encs [(a, b)] := rfl
theorem encs_take (v : List D) (n : Nat) : List.take n (encs v) = encs (v.take n) := by simp [encs]
theorem encs_pure (v : List D) : ∀ c ∈ encs v, c.all AV.pureB = true := by
  intro c hc
  obtain ⟨d, _, rfl⟩ := List.mem_map.1 hc
  rfl
theorem encs_ids (v : List D) : ∀ c ∈ encs v, AV.idsInL [] c = true := by
  intro c hc
  obtain ⟨d, _, rfl⟩ := List.mem_map.1 hc
  rfl
theorem encs_all (v : List D) : List.take v.length (List.drop 0 (encs v)) = encs v := by rw [← encs_length v]; simp
theorem encs_append (a b : List D) : encs a ++ encs b = encs (a ++ b) := by simp [encs]
end Go.Vec
