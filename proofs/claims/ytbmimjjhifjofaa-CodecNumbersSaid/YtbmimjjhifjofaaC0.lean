/- CODEC, 0: how its data stand in the abstract machine. -/
import Derived.Test.YtbmimjjhifjofaaProg
import Derived.Test.YtbmimjjhifjofaaAm24
import Derived.Laws.Strings
namespace Go.Cdc
set_option linter.unusedSimpArgs false
set_option linter.unusedVariables false
open Go Go.Am Go.Proofs

noncomputable abbrev P : Program := Try.prog
def G : Nat → Option (List AV) := fun _ => none

/-- A value of the codec. -/
inductive CV where
  | mk (k n : Int) (s : ByteArray) (l : List CV)
instance : Inhabited CV := ⟨.mk 0 0 .empty []⟩
def CV.k : CV → Int | .mk k _ _ _ => k
def CV.n : CV → Int | .mk _ n _ _ => n
def CV.s : CV → ByteArray | .mk _ _ s _ => s
def CV.l : CV → List CV | .mk _ _ _ l => l
theorem CV.eta (v : CV) : CV.mk v.k v.n v.s v.l = v := by cases v; rfl
mutual
def CV.cells : CV → List AV
  | .mk k n s l => [int k, int n, str s, .sl 4 false (encL l)]
def encL : List CV → List (List AV)
  | [] => []
  | v :: l => v.cells :: encL l
end
def enc (v : CV) : List AV := [int v.k, int v.n, str v.s, .sl 4 false (encL v.l)]
theorem cells_eq (v : CV) : v.cells = enc v := by cases v; simp [CV.cells, enc, CV.k, CV.n, CV.s, CV.l]
theorem encL_map : ∀ l : List CV, encL l = l.map enc
  | [] => by simp [encL]
  | v :: l => by simp [encL, encL_map l, cells_eq]
def val (v : CV) : AV := .agg (enc v)
theorem encL_length (l : List CV) : (encL l).length = l.length := by simp [encL_map]
theorem encL_append (a b : List CV) : encL a ++ encL b = encL (a ++ b) := by simp [encL_map]
theorem encL_one (v : CV) : [enc v] = encL [v] := by simp [encL_map]
theorem encL_drop (v : List CV) (n : Nat) : List.drop n (encL v) = encL (v.drop n) := by simp [encL_map]
theorem encL_take (v : List CV) (n : Nat) : List.take n (encL v) = encL (v.take n) := by simp [encL_map]
theorem encL_pure (v : List CV) : ∀ c ∈ encL v, c.all AV.pureB = true := by
  intro c hc
  rw [encL_map] at hc
  obtain ⟨d, _, rfl⟩ := List.mem_map.1 hc
  rfl
theorem encL_ids (v : List CV) : ∀ c ∈ encL v, AV.idsInL [] c = true := by
  intro c hc
  rw [encL_map] at hc
  obtain ⟨d, _, rfl⟩ := List.mem_map.1 hc
  rfl
theorem encL_all (v : List CV) : List.take v.length (List.drop 0 (encL v)) = encL v := by rw [← encL_length v]; simp

/-- Two strings compared. -/
theorem str_eq (a b : ByteArray) : (ByteArray.toList a == ByteArray.toList b) = decide (a = b) := by
  rw [ByteArray.toList_eq, ByteArray.toList_eq]
  by_cases h : a = b
  · subst h; simp
  · rw [decide_eq_false h]
    refine beq_eq_false_iff_ne.2 fun e => h (ByteArray.ext (Array.toList_inj.1 e))
/-- A value's words, its parts apart. -/
abbrev vmk (k n : Int) (s : ByteArray) (l : List CV) : AV := .agg [int k, int n, str s, .sl 4 false (encL l)]
theorem val_mk (k n : Int) (s : ByteArray) (l : List CV) : val (.mk k n s l) = vmk k n s l := rfl

/-! Bytes -/
abbrev u8 (c : UInt8) : AV := .lit (.int .u8 c.toNat)
def byt1 (c : UInt8) : List AV := [u8 c]
def bys (l : List UInt8) : List (List AV) := l.map byt1
def byt (l : List UInt8) : AV := .sl 1 false (bys l)
theorem bys_length (l : List UInt8) : (bys l).length = l.length := by simp [bys]
theorem strB_ids (s : ByteArray) : ∀ c ∈ s.data.toList.map (fun c => [AV.lit (Value.int IntKind.u8 (c.toNat : Int))]), AV.idsInL [] c = true := by
  intro c hc
  obtain ⟨d, _, rfl⟩ := List.mem_map.1 hc
  rfl
theorem strB_pure (s : ByteArray) : ∀ c ∈ s.data.toList.map (fun c => [AV.lit (Value.int IntKind.u8 (c.toNat : Int))]), c.all AV.pureB = true := by
  intro c hc
  obtain ⟨d, _, rfl⟩ := List.mem_map.1 hc
  rfl
theorem bdata_length (s : ByteArray) : s.data.toList.length = s.size := rfl
theorem bys_append (a b : List UInt8) : bys a ++ bys b = bys (a ++ b) := by simp [bys]
theorem bys_drop (v : List UInt8) (n : Nat) : List.drop n (bys v) = bys (v.drop n) := by simp [bys]
theorem bys_take (v : List UInt8) (n : Nat) : List.take n (bys v) = bys (v.take n) := by simp [bys]
theorem bys_pure (v : List UInt8) : ∀ c ∈ bys v, c.all AV.pureB = true := by
  intro c hc
  obtain ⟨d, _, rfl⟩ := List.mem_map.1 hc
  rfl
theorem bys_ids (v : List UInt8) : ∀ c ∈ bys v, AV.idsInL [] c = true := by
  intro c hc
  obtain ⟨d, _, rfl⟩ := List.mem_map.1 hc
  rfl
theorem bys_all (v : List UInt8) : List.take v.length (List.drop 0 (bys v)) = bys v := by rw [← bys_length v]; simp
abbrev u64 (n : Nat) : AV := .lit (.int .u64 n)
/-- The reader, its box at 0. -/
def rdr (l : List UInt8) : List AObj := [.box [byt l]]
def badErr : AV := .ifc 28 (int 10)
end Go.Cdc
