import Derived.Test.YtflocgjejaoeiaaDoorG15
import Derived.Test.YtflocgjejaoeiaaDoorCards
import Derived.Test.YtflocgjejaoeiaaDoorTie
import Derived.ProofKit
import Derived.OpenShut
import Derived.LaidMore
import Derived.Deep.DeepHandedRow
/-
  For every input, the law BindsKnown of chapter 14 (binds) returns true and leaves its arguments as they were. Conditions: the rule vector.greater holds what the program's own text lays; nothing else.
-/
namespace Go.Proofs.YtflocgjejaoeiaaDoor
set_option maxRecDepth 100000
open Go Go.Am Go.ChangeShapes Go.WideShapes Go.RowKit Go.Bd

theorem own : ownKnob Tryd.prog.godebug = none := by kernel_rfl
theorem gG : Tryd.prog.globalNamed "chartroom/vector.greater" = some 0 := by kernel_rfl
theorem tG : (Tryd.prog.globals[0]?).map (·.type) = some 71 := by kernel_rfl
theorem c45 : Tryd.prog.cellsOf 71 = 1 := by kernel_rfl
theorem c43 : Tryd.prog.cellsOf 69 = 1 := by kernel_rfl
theorem laidOut : laidOutB Tryd.prog = true := by kernel_rfl
theorem rowed : mapsRowed Tryd.prog = true := by kernel_rfl
theorem full : ((List.range Tryd.prog.types.size).all fun t => match Tryd.prog.underlying t with | some (.slice e) => decide (0 < Tryd.prog.cellsOf e) | _ => true) = true := by kernel_rfl

/-- A rule's cell, from what the row lists. -/
theorem rule_cell {W : World} {n : String} {g f0 : Nat} {b : UInt8} {r : List UInt8} (hg : Tryd.prog.globalNamed n = some g) (ht : (Tryd.prog.globals[g]?).map (·.type) = some 71)
    (hone : ((List.range Tryd.prog.funcs.size).filter fun f => (Tryd.prog.funcs[f]?).any (·.name.toUTF8.data.toList == b :: r)) = [f0])
    (h : funcsAt Tryd.prog W n (.agg [.iface "func" (.lit (.string (b :: r)))])) : W.cell? ⟨g, 0, none⟩ = some (.func (.func f0) #[] #[]) := by
  obtain ⟨g', t, cs, fuel, p, hg', ht', hv, hd⟩ := h
  obtain rfl := Option.some.inj (hg.symm.trans hg')
  obtain rfl := Option.some.inj (ht.symm.trans ht')
  obtain ⟨xs, m, _, hx, hl, hxl, hf⟩ := DataW.trod_struct Tryd.underlying71 hd
  have h0 := hf 0 _ rfl
  rw [c45] at hl
  obtain ⟨v, hcs⟩ : ∃ v, cs.toList = [v] := by
    match cs.toList, hl with
    | [v], _ => exact ⟨v, rfl⟩
  rw [hcs] at h0
  have hc1 : ((([v] : List Value).drop 0).take (Tryd.prog.cellsOf 69)) = [v] := by rw [c43]; rfl
  have h1 : DataW.trod (funcToken Tryd.prog) Tryd.prog W 0 (fun _ => true) true m 69 [v] = xs[0]? := by rw [← hc1]; exact h0
  have hx1 : (DataW.agg [.iface "func" (.lit (.string (b :: r)))] : DataW Unit).funcsOut = .agg [.held (b :: r)] := by
    simp [DataW.funcsOut, DataW.funcsOutAll]
  rw [hx1] at hx
  injection hx with hx2 hx3
  injection hx2 with hx4
  match xs, hxl with
  | [y], _ =>
    have hy : y.1 = .held (b :: r) := by simpa using hx4.symm
    have h2 : DataW.trod (funcToken Tryd.prog) Tryd.prog W 0 (fun _ => true) true m 69 [v] = some (.held (b :: r), y.2) := by rw [h1, ← hy]; rfl
    obtain rfl := func_of_trod (f0 := f0) Tryd.underlying69 hone h2
    have := World.var?_cell hg hv 0
    rw [Array.eq_one_of_toList hcs] at this
    simpa using this

theorem globs {W : World} {laid : List (String × DataW Unit)} (hl : laid = [("chartroom/vector.greater", Rows.laid_chartroom_vector_greater)]) (h : laidMetH Tryd.prog laid W) :
    ∀ g cs, Seat.G g = some cs → PRep W (fun _ => False) (.imm cs) (.pointer (some ⟨g, 0, none⟩)) := by
  subst hl
  have h0 : W.cell? ⟨0, 0, none⟩ = some (.func (.func 106) #[] #[]) := rule_cell gG tG (by kernel_rfl) (h.funcs (List.mem_cons_self ..))
  have key : ∀ (g : Nat) (v : Value), W.cell? ⟨g, 0, none⟩ = some v → PRep W (fun _ => False) (.imm [.lit v]) (.pointer (some ⟨g, 0, none⟩)) := fun g v hc =>
    .imm _ _ (fun _ => v) rfl (fun _ h => h) (fun j hj => by match j, hj with | 0, _ => exact hc) (fun j hj => by match j, hj with | 0, _ => exact .lit v)
  intro g cs hg
  unfold Seat.G at hg
  split at hg
  · rename_i e; subst e; cases hg; exact key 0 _ h0
  · cases hg

theorem door_met (os : Os) (args : Array Value) : laidMetH Tryd.prog [("chartroom/vector.greater", Rows.laid_chartroom_vector_greater)] ((World.doorLaid Tryd.prog 600 os).forCall (fun _ _ => 0) ⟨#[], args, []⟩).memory :=
  laidMetH_of_parts3 (fuel := 8) (laidMet_of_run' 8 (by kernel_rfl) (by kernel_rfl)) (by kernel_rfl) (by kernel_rfl)

/-- What the walk gives, for every argument and every world that holds the rules. -/
theorem bindsKnown_contract (H : Type) (enc : TypeId × Value → H) (W : World) (base : Nat) (args : Array Value) (ds gs : List (DataW H)) (before : List MemPlace)
    (hval : ∀ (j : Nat) t v, Tryd.f3.params[j]? = some t → args[j]? = some v → Value.okWide Tryd.prog W .any base t v)
    (hW : DataW.Whole enc Tryd.prog Tryd.f3.params.toList Rows.bindsKnownSpec.vars false W args.toList ds gs before) (hL : laidMetH Tryd.prog Rows.bindsKnownRow.laid W) :
    Calls Tryd.prog 3 args W fun e W' => ∃ v, e = .returned v ∧ Rows.bindsKnownSpec.post enc Tryd.prog Tryd.f3 false true false false W args v W' := by
  have hW' := hW
  obtain ⟨p, q, hA0, hV, rfl, hfz, hnd⟩ := hW
  have hA : DataW.TrodAll enc Tryd.prog W 0 (fun _ => true) true Tryd.f3.params.toList args.toList ds p := hA0
  rw [Tryd.params3] at hA hval
  obtain ⟨v0, vs0, d0, ds0, p0, q0, hargs, rfl, rfl, h0, r0⟩ := trodAll_cons hA
  obtain ⟨v1, vs1, d1, ds1, p1, q1, rfl, rfl, rfl, h1, r1⟩ := trodAll_cons r0
  obtain ⟨rfl, rfl, rfl⟩ := trodAll_nil r1
  obtain rfl : args = #[v0, v1] := by cases args; simp_all
  obtain ⟨a0, k0, g0⟩ := reads_binds (hval 0 22 v0 rfl rfl) h0
  obtain ⟨a1, k1, g1⟩ := reads_bind (hval 1 26 v1 rfl rfl) h1
  refine (law_calls (known_h a0 a1 k0 k1) (globs rfl hL) (.cons g0 (.cons g1 .nil))).mono fun e W' ⟨he, hk⟩ => ?_
  subst he
  exact ⟨_, rfl, law_post (ds := [d0, d1]) laidOut rowed (slices_full_of _ full) rfl rfl (fun t ht => by rw [Tryd.params3] at ht; have : (#[22, 26] : Array TypeId).toList.all (fun t => decide (t < Tryd.prog.types.size)) = true := (by kernel_rfl); exact of_decide_eq_true (List.all_eq_true.1 this t ht)) rfl Tryd.underlying4 hW' hk⟩

theorem bindsKnown_reads (os : Os) {H : Type} (enc : TypeId × Value → H) : ∃ places, DataW.whole enc Tryd.prog ((World.doorLaid Tryd.prog 600 os).forCall (fun _ _ => 0) ⟨#[], #[.slice none 0 0, .agg #[.string .empty, .int .i64 0, .int .i64 0, .int .i64 0, .string .empty]], []⟩).memory Tryd.f3.params.toList Rows.bindsKnownSpec.vars false (#[.slice none 0 0, .agg #[.string .empty, .int .i64 0, .int .i64 0, .int .i64 0, .string .empty]] : Array Value).toList 8 = some ([.nil, .agg [.lit (.string []), .agg [.lit (.int .i64 0), .lit (.int .i64 0)], .lit (.int .i64 0), .lit (.string [])]], [], places) :=
  ⟨[], by kernel_rfl⟩

set_option maxRecDepth 100000 in
theorem bindsKnown_lifted (os : Os) (started : os.Started) (H : Type) (enc : TypeId × Value → H) (F : Stop.Interp) :
    ReturnsInHanded {} Tryd.checked os 3 .any ((OpenSpec.ofChange Rows.bindsKnownSpec).preRow enc Tryd.prog Tryd.f3 Rows.bindsKnownRow.domain false Rows.bindsKnownRow.laid) (((OpenSpec.ofChange Rows.bindsKnownSpec).at F).post enc Tryd.prog Tryd.f3 false true false false) := by
  obtain ⟨places, hx⟩ := bindsKnown_reads os enc
  refine returnsInHanded_of_row (C := Tryd.checked) (s := OpenSpec.ofChange Rows.bindsKnownSpec) own started (by kernel_rfl) Tryd.func3
    (witness_row_at (enc := enc) (C := Tryd.checked) false (World.doorLaid Tryd.prog 600 os) #[.slice none 0 0, .agg #[.string .empty, .int .i64 0, .int .i64 0, .int .i64 0, .string .empty]] rfl (by kernel_rfl) (by kernel_rfl) (by kernel_rfl)
      (OpenSpec.preRow_of_cond 8 hx (by kernel_rfl) (fun k hk => by cases hk) (by kernel_rfl) (door_met os _))) ?_
  intro W base args ds gs before hval hW _ _ _ hL _ _
  exact bindsKnown_contract H enc W base args ds gs before hval hW hL

theorem bindsKnown_said : Rows.BindsKnownSaid :=
  OpenClaim.holds_of_cond 3 Tryd.f3 rfl rfl rfl rfl rfl rfl rfl ⟨rfl, rfl, rfl, rfl, rfl⟩ rfl rfl rfl rfl rfl (by kernel_rfl) Tryd.func3 (by kernel_rfl)
    (of_decide_eq_true (by kernel_rfl)) (by unfold Func.isWrapper; first | (rw [if_pos (by decide +kernel)]; kernel_rfl) | (rw [if_neg (by decide +kernel)]; exact ⟨rfl, rfl⟩))
    (fun os started H enc _ F => by rw [OpenClaim.pre_eq_preRow]; exact bindsKnown_lifted os started H enc F)

theorem bindsKnown_plain (f : FuncId) (fn : Func) (hf : Tryd.pinned.checked.prog.funcNamed "chartroom/chartroomlaw14.BindsKnown" = some f) (hfn : Tryd.pinned.checked.prog.funcs[f]? = some fn) :
    false = Tryd.pinned.checked.prog.looks [] ∧ ∀ (j : Nat) t, fn.params[j]? = some t → Tryd.pinned.checked.prog.wantsStandIn t = false := by
  obtain rfl : f = 3 := Option.some.inj ((show Tryd.prog.funcNamed "chartroom/chartroomlaw14.BindsKnown" = some 3 by kernel_rfl).symm.trans hf) |>.symm
  obtain rfl : fn = Tryd.f3 := (Option.some.inj (Tryd.func3.symm.trans hfn)).symm
  refine ⟨by kernel_rfl, fun j t ht => ?_⟩
  rw [Tryd.params3] at ht
  have hall : (#[22, 26] : Array TypeId).toList.all (fun t => !Tryd.prog.wantsStandIn t) = true := by kernel_rfl
  have := List.all_eq_true.1 hall t (by simpa using Array.mem_of_getElem? ht)
  exact (Bool.not_eq_true' _).mp this

theorem bindsKnown_card : Rows.BindsKnownCardSaid :=
  Claim7.holds_tied_plain_at .later [] _ _ _ _ bindsKnown_said (fun _ h => by cases h) (by kernel_rfl) (fun _ h => by cases h) bindsKnown_row_tie rfl ⟨rfl, rfl⟩ (by kernel_rfl) rfl bindsKnown_plain (by kernel_rfl)
end Go.Proofs.YtflocgjejaoeiaaDoor
