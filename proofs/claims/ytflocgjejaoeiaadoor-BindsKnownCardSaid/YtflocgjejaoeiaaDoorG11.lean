import Derived.Test.YtflocgjejaoeiaaDoorG10
import Derived.Laws.Strings
/- BINDS, 0: how their data stand in the abstract machine. -/
namespace Go.Bd
set_option maxRecDepth 100000
set_option linter.unusedSimpArgs false
set_option linter.unusedVariables false
open Go Go.Am Go.Proofs Go.Seat

/-- A bind. -/
structure BE where
  ky : ByteArray
  dv : Int
  sq : Int
  tm : Int
  vl : ByteArray
  deriving DecidableEq
def BE.dot (b : BE) : Int × Int := (b.dv, b.sq)
def enc (b : BE) : List AV := [str b.ky, int b.dv, int b.sq, int b.tm, str b.vl]
def encs (v : List BE) : List (List AV) := v.map enc
def bes (v : List BE) : AV := .sl 5 false (encs v)
def bel (b : BE) : AV := .agg (enc b)
abbrev dta (a b : Int) : AV := .agg [int a, int b]
abbrev fnF (f : Nat) : AV := .lit (.func (.func f) #[] #[])

theorem encs_length (v : List BE) : (encs v).length = v.length := by simp [encs]
theorem encs_get? (v : List BE) (k : Nat) : (encs v)[k]? = (v[k]?).map enc := by simp [encs]
theorem encs_append (a b : List BE) : encs a ++ encs b = encs (a ++ b) := by simp [encs]
theorem encs_one (b : BE) : [enc b] = encs [b] := rfl
theorem encs_mk (k : ByteArray) (a b c : Int) (s : ByteArray) : [[AV.lit (Value.string k), AV.lit (Value.int IntKind.i64 a), AV.lit (Value.int IntKind.i64 b), AV.lit (Value.int IntKind.i64 c), AV.lit (Value.string s)]] = encs [⟨k, a, b, c, s⟩] := rfl
theorem encs_drop (v : List BE) (n : Nat) : List.drop n (encs v) = encs (v.drop n) := by simp [encs]
theorem encs_take (v : List BE) (n : Nat) : List.take n (encs v) = encs (v.take n) := by simp [encs]
theorem encs_set (v : List BE) (n : Nat) (b : BE) : (encs v).set n (enc b) = encs (v.set n b) := by simp [encs, List.map_set]
theorem encs_pure (v : List BE) : ∀ c ∈ encs v, c.all AV.pureB = true := by
  intro c hc
  obtain ⟨d, _, rfl⟩ := List.mem_map.1 hc
  rfl
theorem encs_ids (v : List BE) : ∀ c ∈ encs v, AV.idsInL [] c = true := by
  intro c hc
  obtain ⟨d, _, rfl⟩ := List.mem_map.1 hc
  rfl
theorem encs_all (v : List BE) : List.take v.length (List.drop 0 (encs v)) = encs v := by rw [← encs_length v]; simp

/-! Strings -/
def st1 (s : ByteArray) : List AV := [str s]
def sts (l : List ByteArray) : List (List AV) := l.map st1
def strs (l : List ByteArray) : AV := .sl 1 false (sts l)
theorem sts_length (v : List ByteArray) : (sts v).length = v.length := by simp [sts]
theorem str_eq (a b : ByteArray) : (ByteArray.toList a == ByteArray.toList b) = decide (a = b) := by
  rw [ByteArray.toList_eq, ByteArray.toList_eq]
  by_cases h : a = b
  · subst h; simp
  · rw [decide_eq_false h]
    refine beq_eq_false_iff_ne.2 fun e => h (ByteArray.ext (Array.toList_inj.1 e))
theorem ba_beq (a b : ByteArray) : (a == b) = decide (a = b) := by
  obtain ⟨⟨a⟩⟩ := a; obtain ⟨⟨b⟩⟩ := b
  show (a.toArray == b.toArray) = _
  rw [Bool.eq_iff_iff]; simp
end Go.Bd
