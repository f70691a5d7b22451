import Derived.Test.YtflocgjejaoeiaaDoorG9
import Derived.Test.YtflocgjejaoeiaaDoorProg
/- The seat: its program, and what its package's variable holds. -/
namespace Go.Seat
set_option maxRecDepth 100000
set_option linter.unusedSimpArgs false
set_option linter.unusedVariables false
open Go Go.Am Go.Proofs

noncomputable abbrev P : Program := Tryd.prog
def fnV (f : Nat) : AV := .lit (.func (.func f) #[] #[])
def G (g : Nat) : Option (List AV) := if g = 0 then some [fnV 106] else none
end Go.Seat

/- VECTOR, 0: how its data stand in the abstract machine. -/
namespace Go.Vec
set_option maxRecDepth 100000
set_option linter.unusedSimpArgs false
set_option linter.unusedVariables false
open Go Go.Am Go.Proofs Go.Seat

abbrev D := Int × Int
def enc (d : D) : List AV := [int d.1, int d.2]
def encs (v : List D) : List (List AV) := v.map enc
def vec (v : List D) : AV := .sl 2 false (encs v)
def dot (d : D) : AV := .agg (enc d)

theorem encs_length (v : List D) : (encs v).length = v.length := by simp [encs]
theorem encs_get {v : List D} {k : Nat} (h : k < v.length) : (encs v)[k]? = some (enc v[k]) := by simp [encs, h]
theorem encs_get? (v : List D) (k : Nat) : (encs v)[k]? = (v[k]?).map enc := by simp [encs]
theorem encs_one (a b : Int) : [[AV.lit (Value.int IntKind.i64 a), AV.lit (Value.int IntKind.i64 b)]] = encs [(a, b)] := rfl
theorem encs_drop (v : List D) (n : Nat) : List.drop n (encs v) = encs (v.drop n) := by simp [encs]
theorem encs_take (v : List D) (n : Nat) : List.take n (encs v) = encs (v.take n) := by simp [encs]
theorem encs_pure (v : List D) : ∀ c ∈ encs v, c.all AV.pureB = true := by
  intro c hc
  obtain ⟨d, _, rfl⟩ := List.mem_map.1 hc
  rfl
theorem encs_ids (v : List D) : ∀ c ∈ encs v, AV.idsInL [] c = true := by
  intro c hc
  obtain ⟨d, _, rfl⟩ := List.mem_map.1 hc
  rfl
theorem encs_all (v : List D) : List.take v.length (List.drop 0 (encs v)) = encs v := by rw [← encs_length v]; simp
theorem encs_append (a b : List D) : encs a ++ encs b = encs (a ++ b) := by simp [encs]
end Go.Vec
