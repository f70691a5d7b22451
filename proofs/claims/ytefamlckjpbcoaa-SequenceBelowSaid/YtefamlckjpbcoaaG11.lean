import Derived.Test.YtefamlckjpbcoaaG10
import Derived.Laws.Strings
set_option maxRecDepth 100000
set_option linter.unusedSimpArgs false
set_option linter.unusedVariables false
/- SEQUENCE, 0: how its data stand in the abstract machine. -/
namespace Go.Sq
open Go Go.Am Go.Proofs Go.Seat

abbrev ID := Int × Int × Int
structure CE where
  dv : Int
  sq : Int
  at' : Int
  ad : Int
  as' : Int
  aa : Int
  tm : Int
  vl : ByteArray
  gn : Bool
  deriving DecidableEq
def enc (c : CE) : List AV := [int c.dv, int c.sq, int c.at', int c.ad, int c.as', int c.aa, int c.tm, str c.vl, bool c.gn]
def encs (v : List CE) : List (List AV) := v.map enc
def ces (v : List CE) : AV := .sl 9 false (encs v)
def cel (c : CE) : AV := .agg (enc c)
abbrev ida (a b c : Int) : AV := .agg [int a, int b, int c]
def CE.id (c : CE) : ID := (c.dv, c.sq, c.at')
def CE.after (c : CE) : ID := (c.ad, c.as', c.aa)
theorem encs_length (v : List CE) : (encs v).length = v.length := by simp [encs]
theorem encs_get? (v : List CE) (k : Nat) : (encs v)[k]? = (v[k]?).map enc := by simp [encs]
theorem encs_append (a b : List CE) : encs a ++ encs b = encs (a ++ b) := by simp [encs]
theorem encs_one (c : CE) : [enc c] = encs [c] := rfl
theorem encs_take (v : List CE) (n : Nat) : List.take n (encs v) = encs (v.take n) := by simp [encs]
theorem encs_set (v : List CE) (n : Nat) (c : CE) : (encs v).set n (enc c) = encs (v.set n c) := by simp [encs, List.map_set]
theorem encs_pure (v : List CE) : ∀ c ∈ encs v, c.all AV.pureB = true := by
  intro c hc
  obtain ⟨d, _, rfl⟩ := List.mem_map.1 hc
  rfl
theorem encs_ids (v : List CE) : ∀ c ∈ encs v, AV.idsInL [] c = true := by
  intro c hc
  obtain ⟨d, _, rfl⟩ := List.mem_map.1 hc
  rfl
theorem encs_all (v : List CE) : List.take v.length (List.drop 0 (encs v)) = encs v := by rw [← encs_length v]; simp

/-! Values -/
def st1 (s : ByteArray) : List AV := [str s]
def sts (l : List ByteArray) : List (List AV) := l.map st1
def strs (l : List ByteArray) : AV := .sl 1 false (sts l)
theorem sts_length (v : List ByteArray) : (sts v).length = v.length := by simp [sts]
theorem sts_append (a b : List ByteArray) : sts a ++ sts b = sts (a ++ b) := by simp [sts]
theorem sts_one (s : ByteArray) : [[AV.lit (Value.string s)]] = sts [s] := rfl
theorem sts_pure (v : List ByteArray) : ∀ c ∈ sts v, c.all AV.pureB = true := by
  intro c hc
  obtain ⟨d, _, rfl⟩ := List.mem_map.1 hc
  rfl
theorem sts_ids (v : List ByteArray) : ∀ c ∈ sts v, AV.idsInL [] c = true := by
  intro c hc
  obtain ⟨d, _, rfl⟩ := List.mem_map.1 hc
  rfl
theorem sts_all (v : List ByteArray) : List.take v.length (List.drop 0 (sts v)) = sts v := by rw [← sts_length v]; simp

theorem ba_beq (a b : ByteArray) : (a == b) = decide (a = b) := by
  obtain ⟨⟨a⟩⟩ := a; obtain ⟨⟨b⟩⟩ := b
  show (a.toArray == b.toArray) = _
  rw [Bool.eq_iff_iff]; simp
end Go.Sq
