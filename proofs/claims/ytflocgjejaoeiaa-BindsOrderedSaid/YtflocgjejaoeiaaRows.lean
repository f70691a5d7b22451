/-
  No cell of these rows narrows 'for every input' (looked for: loops, veiled, ifaces, maps, wideKeys, modest, calm, conditions, laid).
  DERIVED. THE GIVEN ROWS OF THIS SEAT. 6 by the template 'for every input the law returns true; each argument reads behind the call as it read before'; 0 by the template 'total and deterministic' (their statements: YtflocgjejaoeiaaTotals.lean).
  GIVEN WITH THE SEED: the statements are not yours to turn. If you find one false, say at which input.
  Laid BY PROGRAM, IN A SANDBOX (cutbox-rows.mjs): the forced cells as the released guide's own fill.sh prints them over the translation e3bd36df64264240… (all of the seat's roots in one cut). By AI agents, Wed Nov 11 2026. No macro, syntax, notation, axiom, sorry.
-/
import Derived.Test.YtflocgjejaoeiaaChecked
import GoSem.Claim
import GoSem.ClaimJoined
import GoSem.ClaimMapViews
import Derived.JoinedTies
import Derived.KernelRfl
namespace Go.Proofs.Ytflocgjejaoeiaa
/- THE CELL 'sum', in the pinned program and in every row, IS THE sha256 OF THE DUMP (.gsa) THAT YtflocgjejaoeiaaProg.lean LOADS. Nothing in Lean hashes anything: it is a label: what it is worth is what the hold of that sum in a sandbox is worth. -/
noncomputable def Try.pinned : Pinned := { name := "ytflocgjejaoeiaa", sum := "e3bd36df6426424076e77af381c31348892a54792eb9eeea13189cb4ae4e6b97", checked := Try.checked }
namespace Rows
def none {H : Type} : Left H := { results := [], args := [] }

/-- 'chartroomlaw14.BindsPutSpec': WHATEVER THE INPUT: true; the input reads as it did. -/
def bindsPutSpecSpec : ChangeSpec := { name := "bindsPutSpec", fn := fun _ => fun
  | [d1, d2, d3] => { results := [.lit (.bool true)], args := [d1, d2, d3] }
  | _ => none }
def bindsPutSpecRow : OpenClaim := { program := "ytflocgjejaoeiaa", sum := "e3bd36df6426424076e77af381c31348892a54792eb9eeea13189cb4ae4e6b97", func := "chartroom/chartroomlaw14.BindsPutSpec", spec := "bindsPutSpec", inPlace := ["slices.overlaps[chartroom/api.Bind]"], unfollowed := true, recurses := true, plainKeys := false, apart := false }
def BindsPutSpecSaid : Prop := bindsPutSpecRow.holds Try.pinned (OpenSpec.ofChange bindsPutSpecSpec)

/-- ITS FALSE NEIGHBOUR: 'it returns false'. Refute it at one input. -/
def bindsPutSpecWrong : ChangeSpec := { name := "bindsPutSpec", fn := fun _ => fun
  | [d1, d2, d3] => { results := [.lit (.bool false)], args := [d1, d2, d3] }
  | _ => none }
def BindsPutSpecWrongFalsely : Prop := bindsPutSpecRow.holds Try.pinned (OpenSpec.ofChange bindsPutSpecWrong)

/-- 'chartroomlaw14.BindsDropSpec': WHATEVER THE INPUT: true; the input reads as it did. -/
def bindsDropSpecSpec : ChangeSpec := { name := "bindsDropSpec", fn := fun _ => fun
  | [d1, d2, d3] => { results := [.lit (.bool true)], args := [d1, d2, d3] }
  | _ => none }
def bindsDropSpecRow : OpenClaim := { program := "ytflocgjejaoeiaa", sum := "e3bd36df6426424076e77af381c31348892a54792eb9eeea13189cb4ae4e6b97", func := "chartroom/chartroomlaw14.BindsDropSpec", spec := "bindsDropSpec", inPlace := ["slices.overlaps[chartroom/api.Bind]"], unfollowed := true, recurses := true, plainKeys := false, apart := false }
def BindsDropSpecSaid : Prop := bindsDropSpecRow.holds Try.pinned (OpenSpec.ofChange bindsDropSpecSpec)

/-- ITS FALSE NEIGHBOUR: 'it returns false'. Refute it at one input. -/
def bindsDropSpecWrong : ChangeSpec := { name := "bindsDropSpec", fn := fun _ => fun
  | [d1, d2, d3] => { results := [.lit (.bool false)], args := [d1, d2, d3] }
  | _ => none }
def BindsDropSpecWrongFalsely : Prop := bindsDropSpecRow.holds Try.pinned (OpenSpec.ofChange bindsDropSpecWrong)

/-- 'chartroomlaw14.BindsValuesSpec': WHATEVER THE INPUT: true; the input reads as it did. -/
def bindsValuesSpecSpec : ChangeSpec := { name := "bindsValuesSpec", fn := fun _ => fun
  | [d1, d2] => { results := [.lit (.bool true)], args := [d1, d2] }
  | _ => none }
def bindsValuesSpecRow : OpenClaim := { program := "ytflocgjejaoeiaa", sum := "e3bd36df6426424076e77af381c31348892a54792eb9eeea13189cb4ae4e6b97", func := "chartroom/chartroomlaw14.BindsValuesSpec", spec := "bindsValuesSpec", inPlace := ["slices.overlaps[chartroom/api.Bind]"], unfollowed := true, recurses := true, plainKeys := false, apart := false }
def BindsValuesSpecSaid : Prop := bindsValuesSpecRow.holds Try.pinned (OpenSpec.ofChange bindsValuesSpecSpec)

/-- ITS FALSE NEIGHBOUR: 'it returns false'. Refute it at one input. -/
def bindsValuesSpecWrong : ChangeSpec := { name := "bindsValuesSpec", fn := fun _ => fun
  | [d1, d2] => { results := [.lit (.bool false)], args := [d1, d2] }
  | _ => none }
def BindsValuesSpecWrongFalsely : Prop := bindsValuesSpecRow.holds Try.pinned (OpenSpec.ofChange bindsValuesSpecWrong)

/-- 'chartroomlaw14.BindsCommute': WHATEVER THE INPUT: true; the input reads as it did. -/
def bindsCommuteSpec : ChangeSpec := { name := "bindsCommute", fn := fun _ => fun
  | [d1, d2, d3, d4, d5] => { results := [.lit (.bool true)], args := [d1, d2, d3, d4, d5] }
  | _ => none }
def bindsCommuteRow : OpenClaim := { program := "ytflocgjejaoeiaa", sum := "e3bd36df6426424076e77af381c31348892a54792eb9eeea13189cb4ae4e6b97", func := "chartroom/chartroomlaw14.BindsCommute", spec := "bindsCommute", inPlace := ["slices.overlaps[chartroom/api.Bind]"], unfollowed := true, recurses := true, plainKeys := false, apart := false }
def BindsCommuteSaid : Prop := bindsCommuteRow.holds Try.pinned (OpenSpec.ofChange bindsCommuteSpec)

/-- ITS FALSE NEIGHBOUR: 'it returns false'. Refute it at one input. -/
def bindsCommuteWrong : ChangeSpec := { name := "bindsCommute", fn := fun _ => fun
  | [d1, d2, d3, d4, d5] => { results := [.lit (.bool false)], args := [d1, d2, d3, d4, d5] }
  | _ => none }
def BindsCommuteWrongFalsely : Prop := bindsCommuteRow.holds Try.pinned (OpenSpec.ofChange bindsCommuteWrong)

/-- 'chartroomlaw14.BindsWins': WHATEVER THE INPUT: true; the input reads as it did. -/
def bindsWinsSpec : ChangeSpec := { name := "bindsWins", fn := fun _ => fun
  | [d1, d2, d3, d4, d5] => { results := [.lit (.bool true)], args := [d1, d2, d3, d4, d5] }
  | _ => none }
def bindsWinsRow : OpenClaim := { program := "ytflocgjejaoeiaa", sum := "e3bd36df6426424076e77af381c31348892a54792eb9eeea13189cb4ae4e6b97", func := "chartroom/chartroomlaw14.BindsWins", spec := "bindsWins", inPlace := ["slices.overlaps[chartroom/api.Bind]"], unfollowed := true, recurses := true, plainKeys := false, apart := false }
def BindsWinsSaid : Prop := bindsWinsRow.holds Try.pinned (OpenSpec.ofChange bindsWinsSpec)

/-- ITS FALSE NEIGHBOUR: 'it returns false'. Refute it at one input. -/
def bindsWinsWrong : ChangeSpec := { name := "bindsWins", fn := fun _ => fun
  | [d1, d2, d3, d4, d5] => { results := [.lit (.bool false)], args := [d1, d2, d3, d4, d5] }
  | _ => none }
def BindsWinsWrongFalsely : Prop := bindsWinsRow.holds Try.pinned (OpenSpec.ofChange bindsWinsWrong)

/-- 'chartroomlaw14.BindsOrdered': WHATEVER THE INPUT: true; the input reads as it did. -/
def bindsOrderedSpec : ChangeSpec := { name := "bindsOrdered", fn := fun _ => fun
  | [d] => { results := [.lit (.bool true)], args := [d] }
  | _ => none }
def bindsOrderedRow : OpenClaim := { program := "ytflocgjejaoeiaa", sum := "e3bd36df6426424076e77af381c31348892a54792eb9eeea13189cb4ae4e6b97", func := "chartroom/chartroomlaw14.BindsOrdered", spec := "bindsOrdered", inPlace := ["slices.overlaps[chartroom/api.Bind]"], unfollowed := true, recurses := true, plainKeys := false, apart := false }
def BindsOrderedSaid : Prop := bindsOrderedRow.holds Try.pinned (OpenSpec.ofChange bindsOrderedSpec)

/-- ITS FALSE NEIGHBOUR: 'it returns false'. Refute it at one input. -/
def bindsOrderedWrong : ChangeSpec := { name := "bindsOrdered", fn := fun _ => fun
  | [d] => { results := [.lit (.bool false)], args := [d] }
  | _ => none }
def BindsOrderedWrongFalsely : Prop := bindsOrderedRow.holds Try.pinned (OpenSpec.ofChange bindsOrderedWrong)

/- THE SECOND FORM. 'bulk': how many values and letters a reading holds, each counted each time it is reached (what is shared counts as often as it is met; a slice's spare places count too). A statement '..UptoSaid' is the law's where the arguments, and the package variables that the reading takes, are together of bulk at most 1048576: NARROWER than '..Said'. Prove '..Said' where nothing that the law and all that it calls make is longer than what came in: it says more and counts as full. Else prove '..UptoSaid'. A law counts once. -/
mutual
def uptoBulk {H : Type} : DataW H → Nat
  | .lit (.string bytes) => bytes.length + 1
  | .lit _ => 1
  | .nil => 1
  | .ptr d => uptoBulk d + 1
  | .slice elems spare => uptoBulkAll elems + uptoBulkAll spare + 1
  | .agg parts => uptoBulkAll parts + 1
  | .iface _ d => uptoBulk d + 1
  | .map entries => uptoBulkEntries entries + 1
  | .held _ => 1
def uptoBulkAll {H : Type} : List (DataW H) → Nat
  | [] => 0
  | d :: r => uptoBulk d + uptoBulkAll r
def uptoBulkEntries {H : Type} : List (Lit × DataW H) → Nat
  | [] => 0
  | x :: r => uptoBulkEntry x + uptoBulkEntries r
def uptoBulkEntry {H : Type} : Lit × DataW H → Nat
  | (.string bytes, d) => bytes.length + uptoBulk d + 1
  | (_, d) => uptoBulk d + 1
 end
def uptoSmall : (H : Type) → List (DataW H) → Bool := fun _ ds => decide (uptoBulkAll ds ≤ 1048576)
def OpenSpec.upto (s : _root_.Go.ChangeSpec) : _root_.Go.OpenSpec := { _root_.Go.OpenSpec.ofChange s with cond := some uptoSmall }

/-- 'chartroomlaw14.BindsPutSpec', WHERE WHAT IT READS IS OF BULK AT MOST 1048576: true; the input reads as it did. -/
def bindsPutSpecUptoRow : OpenClaim := { program := "ytflocgjejaoeiaa", sum := "e3bd36df6426424076e77af381c31348892a54792eb9eeea13189cb4ae4e6b97", func := "chartroom/chartroomlaw14.BindsPutSpec", spec := "bindsPutSpec", inPlace := ["slices.overlaps[chartroom/api.Bind]"], unfollowed := true, recurses := true, plainKeys := false, apart := false, narrowed := true }
def BindsPutSpecUptoSaid : Prop := bindsPutSpecUptoRow.holds Try.pinned (OpenSpec.upto bindsPutSpecSpec)

/-- 'chartroomlaw14.BindsDropSpec', WHERE WHAT IT READS IS OF BULK AT MOST 1048576: true; the input reads as it did. -/
def bindsDropSpecUptoRow : OpenClaim := { program := "ytflocgjejaoeiaa", sum := "e3bd36df6426424076e77af381c31348892a54792eb9eeea13189cb4ae4e6b97", func := "chartroom/chartroomlaw14.BindsDropSpec", spec := "bindsDropSpec", inPlace := ["slices.overlaps[chartroom/api.Bind]"], unfollowed := true, recurses := true, plainKeys := false, apart := false, narrowed := true }
def BindsDropSpecUptoSaid : Prop := bindsDropSpecUptoRow.holds Try.pinned (OpenSpec.upto bindsDropSpecSpec)

/-- 'chartroomlaw14.BindsValuesSpec', WHERE WHAT IT READS IS OF BULK AT MOST 1048576: true; the input reads as it did. -/
def bindsValuesSpecUptoRow : OpenClaim := { program := "ytflocgjejaoeiaa", sum := "e3bd36df6426424076e77af381c31348892a54792eb9eeea13189cb4ae4e6b97", func := "chartroom/chartroomlaw14.BindsValuesSpec", spec := "bindsValuesSpec", inPlace := ["slices.overlaps[chartroom/api.Bind]"], unfollowed := true, recurses := true, plainKeys := false, apart := false, narrowed := true }
def BindsValuesSpecUptoSaid : Prop := bindsValuesSpecUptoRow.holds Try.pinned (OpenSpec.upto bindsValuesSpecSpec)

/-- 'chartroomlaw14.BindsCommute', WHERE WHAT IT READS IS OF BULK AT MOST 1048576: true; the input reads as it did. -/
def bindsCommuteUptoRow : OpenClaim := { program := "ytflocgjejaoeiaa", sum := "e3bd36df6426424076e77af381c31348892a54792eb9eeea13189cb4ae4e6b97", func := "chartroom/chartroomlaw14.BindsCommute", spec := "bindsCommute", inPlace := ["slices.overlaps[chartroom/api.Bind]"], unfollowed := true, recurses := true, plainKeys := false, apart := false, narrowed := true }
def BindsCommuteUptoSaid : Prop := bindsCommuteUptoRow.holds Try.pinned (OpenSpec.upto bindsCommuteSpec)

/-- 'chartroomlaw14.BindsWins', WHERE WHAT IT READS IS OF BULK AT MOST 1048576: true; the input reads as it did. -/
def bindsWinsUptoRow : OpenClaim := { program := "ytflocgjejaoeiaa", sum := "e3bd36df6426424076e77af381c31348892a54792eb9eeea13189cb4ae4e6b97", func := "chartroom/chartroomlaw14.BindsWins", spec := "bindsWins", inPlace := ["slices.overlaps[chartroom/api.Bind]"], unfollowed := true, recurses := true, plainKeys := false, apart := false, narrowed := true }
def BindsWinsUptoSaid : Prop := bindsWinsUptoRow.holds Try.pinned (OpenSpec.upto bindsWinsSpec)

/-- 'chartroomlaw14.BindsOrdered', WHERE WHAT IT READS IS OF BULK AT MOST 1048576: true; the input reads as it did. -/
def bindsOrderedUptoRow : OpenClaim := { program := "ytflocgjejaoeiaa", sum := "e3bd36df6426424076e77af381c31348892a54792eb9eeea13189cb4ae4e6b97", func := "chartroom/chartroomlaw14.BindsOrdered", spec := "bindsOrdered", inPlace := ["slices.overlaps[chartroom/api.Bind]"], unfollowed := true, recurses := true, plainKeys := false, apart := false, narrowed := true }
def BindsOrderedUptoSaid : Prop := bindsOrderedUptoRow.holds Try.pinned (OpenSpec.upto bindsOrderedSpec)

end Rows
end Go.Proofs.Ytflocgjejaoeiaa
