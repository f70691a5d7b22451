/-
  For every input, the law VectorOrder of chapter 12 (vector) returns true and leaves its arguments as they were. Conditions: the package's two rules (vector.greater, vector.lesser) hold what the program's own text lays; nothing else.
-/
import Derived.Test.YtpnoncfhclchdaaDoorCards
import Derived.Test.YtpnoncfhclchdaaDoorTie
import Derived.ProofKit
import Derived.OpenShut
import Derived.LaidMore
import Derived.Deep.DeepHandedRow
import Derived.Test.YtpnoncfhclchdaaDoorAm23
import Derived.Test.YtpnoncfhclchdaaDoorV19
namespace Go.Proofs.YtpnoncfhclchdaaDoor
open Go Go.Am Go.ChangeShapes Go.WideShapes Go.RowKit Go.Vec

theorem own : ownKnob Tryd.prog.godebug = none := by kernel_rfl
theorem gG : Tryd.prog.globalNamed "chartroom/vector.greater" = some 0 := by kernel_rfl
theorem gL : Tryd.prog.globalNamed "chartroom/vector.lesser" = some 1 := by kernel_rfl
theorem tG : (Tryd.prog.globals[0]?).map (·.type) = some 45 := by kernel_rfl
theorem tL : (Tryd.prog.globals[1]?).map (·.type) = some 45 := by kernel_rfl
theorem c45 : Tryd.prog.cellsOf 45 = 1 := by kernel_rfl
theorem c43 : Tryd.prog.cellsOf 43 = 1 := by kernel_rfl
theorem c22 : Tryd.prog.cellsOf 22 = 1 := by kernel_rfl
theorem c24 : Tryd.prog.cellsOf 24 = 2 := by kernel_rfl
theorem c3 : Tryd.prog.cellsOf 3 = 1 := by kernel_rfl
theorem laidOut : laidOutB Tryd.prog = true := by kernel_rfl
theorem rowed : mapsRowed Tryd.prog = true := by kernel_rfl
theorem full : ((List.range Tryd.prog.types.size).all fun t => match Tryd.prog.underlying t with | some (.slice e) => decide (0 < Tryd.prog.cellsOf e) | _ => true) = true := by kernel_rfl

/-- A rule's cell, from what the row lists. -/
theorem rule_cell {W : World} {n : String} {g f0 : Nat} {b : UInt8} {r : List UInt8} (hg : Tryd.prog.globalNamed n = some g) (ht : (Tryd.prog.globals[g]?).map (·.type) = some 45)
    (hone : ((List.range Tryd.prog.funcs.size).filter fun f => (Tryd.prog.funcs[f]?).any (·.name.toUTF8.data.toList == b :: r)) = [f0])
    (h : funcsAt Tryd.prog W n (.agg [.iface "func" (.lit (.string (b :: r)))])) : W.cell? ⟨g, 0, none⟩ = some (.func (.func f0) #[] #[]) := by
  obtain ⟨g', t, cs, fuel, p, hg', ht', hv, hd⟩ := h
  obtain rfl := Option.some.inj (hg.symm.trans hg')
  obtain rfl := Option.some.inj (ht.symm.trans ht')
  obtain ⟨xs, m, _, hx, hl, hxl, hf⟩ := DataW.trod_struct Tryd.underlying45 hd
  have h0 := hf 0 _ rfl
  rw [c45] at hl
  obtain ⟨v, hcs⟩ : ∃ v, cs.toList = [v] := by
    match cs.toList, hl with
    | [v], _ => exact ⟨v, rfl⟩
  rw [hcs] at h0
  have hc1 : ((([v] : List Value).drop 0).take (Tryd.prog.cellsOf 43)) = [v] := by rw [c43]; rfl
  have h1 : DataW.trod (funcToken Tryd.prog) Tryd.prog W 0 (fun _ => true) true m 43 [v] = xs[0]? := by rw [← hc1]; exact h0
  have hx1 : (DataW.agg [.iface "func" (.lit (.string (b :: r)))] : DataW Unit).funcsOut = .agg [.held (b :: r)] := by
    simp [DataW.funcsOut, DataW.funcsOutAll]
  rw [hx1] at hx
  injection hx with hx2 hx3
  injection hx2 with hx4
  match xs, hxl with
  | [y], _ =>
    have hy : y.1 = .held (b :: r) := by simpa using hx4.symm
    have h2 : DataW.trod (funcToken Tryd.prog) Tryd.prog W 0 (fun _ => true) true m 43 [v] = some (.held (b :: r), y.2) := by rw [h1, ← hy]; rfl
    obtain rfl := func_of_trod (f0 := f0) Tryd.underlying43 hone h2
    have := World.var?_cell hg hv 0
    rw [Array.eq_one_of_toList hcs] at this
    simpa using this

theorem globs {W : World} {laid : List (String × DataW Unit)} (hl : laid = [("chartroom/vector.greater", Rows.laid_chartroom_vector_greater), ("chartroom/vector.lesser", Rows.laid_chartroom_vector_lesser)]) (h : laidMetH Tryd.prog laid W) :
    ∀ g cs, Vec.G g = some cs → PRep W (fun _ => False) (.imm cs) (.pointer (some ⟨g, 0, none⟩)) := by
  subst hl
  have h0 : W.cell? ⟨0, 0, none⟩ = some (.func (.func 54) #[] #[]) := rule_cell gG tG (by kernel_rfl) (h.funcs (List.mem_cons_self ..))
  have h1 : W.cell? ⟨1, 0, none⟩ = some (.func (.func 55) #[] #[]) := rule_cell gL tL (by kernel_rfl) (h.funcs (List.mem_cons_of_mem _ (List.mem_cons_self ..)))
  have key : ∀ (g : Nat) (v : Value), W.cell? ⟨g, 0, none⟩ = some v → PRep W (fun _ => False) (.imm [.lit v]) (.pointer (some ⟨g, 0, none⟩)) := fun g v hc =>
    .imm _ _ (fun _ => v) rfl (fun _ h => h) (fun j hj => by match j, hj with | 0, _ => exact hc) (fun j hj => by match j, hj with | 0, _ => exact .lit v)
  intro g cs hg
  unfold Vec.G at hg
  split at hg
  · rename_i e; subst e; cases hg; exact key 0 _ h0
  · split at hg
    · rename_i e; subst e; cases hg; exact key 1 _ h1
    · cases hg

noncomputable def cInt : Cod Tryd.prog 3 Int := Cod.int Tryd.underlying3 c3
noncomputable def cDot : Cod Tryd.prog 24 D := Cod.struct Tryd.underlying24 (by kernel_rfl) (FCod.cons cInt rfl (FCod.cons cInt (by kernel_rfl) FCod.nil)) (fun a => (a.1, a.2.1)) Vec.enc (fun _ => rfl) (fun _ => c24.symm)
noncomputable def cVec : Cod Tryd.prog 22 (List D) := Cod.slice Tryd.underlying22 c22 (by rw [c24]; decide) cDot
theorem cVec_enc (v : List D) : cVec.enc v = [vec v] := by
  show [AV.sl (Tryd.prog.cellsOf 24) false (v.map Vec.enc)] = [AV.sl 2 false (v.map Vec.enc)]
  rw [c24]

theorem reads_vec {H : Type} {enc : TypeId × Value → H} {W : World} {base : Nat} {v : Value} {d : DataW H} {ps : List MemPlace} (hv : Value.okWide Tryd.prog W .any base 22 v) (h : DataW.Trod enc Tryd.prog W 0 (fun _ => true) true 22 v d ps) : ∃ l : List D, Rep (view0 W) (vec l) v := by
  obtain ⟨a, _, h2⟩ := cVec.one (by kernel_rfl) hv h cVec_enc
  exact ⟨a, h2⟩
theorem reads_int {H : Type} {enc : TypeId × Value → H} {W : World} {base : Nat} {v : Value} {d : DataW H} {ps : List MemPlace} (hv : Value.okWide Tryd.prog W .any base 3 v) (h : DataW.Trod enc Tryd.prog W 0 (fun _ => true) true 3 v d ps) : ∃ n : Int, Rep (view0 W) (Am.int n) v := by
  obtain ⟨a, _, h2⟩ := cInt.one (by kernel_rfl) hv h (mk := Am.int) (fun _ => rfl)
  exact ⟨a, h2⟩
theorem reads_dot {H : Type} {enc : TypeId × Value → H} {W : World} {base : Nat} {v : Value} {d : DataW H} {ps : List MemPlace} (hv : Value.okWide Tryd.prog W .any base 24 v) (h : DataW.Trod enc Tryd.prog W 0 (fun _ => true) true 24 v d ps) : ∃ x y : Int, Rep (view0 W) (dot (x, y)) v := by
  obtain ⟨a, _, h2⟩ := cDot.many (by kernel_rfl) hv h
  exact ⟨a.1, a.2, h2⟩

theorem door_met (os : Os) (args : Array Value) : laidMetH Tryd.prog [("chartroom/vector.greater", Rows.laid_chartroom_vector_greater), ("chartroom/vector.lesser", Rows.laid_chartroom_vector_lesser)] ((World.doorLaid Tryd.prog 600 os).forCall (fun _ _ => 0) ⟨#[], args, []⟩).memory :=
  laidMetH_of_parts3 (fuel := 8) (laidMet_of_run' 8 (by kernel_rfl) (by kernel_rfl)) (by kernel_rfl) (by kernel_rfl)

/-- What the walk gives, for every argument and every world that holds the rules. -/
theorem vectorOrder_contract (H : Type) (enc : TypeId × Value → H) (W : World) (base : Nat) (args : Array Value) (ds gs : List (DataW H)) (before : List MemPlace)
    (hval : ∀ (j : Nat) t v, Tryd.f7.params[j]? = some t → args[j]? = some v → Value.okWide Tryd.prog W .any base t v)
    (hW : DataW.Whole enc Tryd.prog Tryd.f7.params.toList Rows.vectorOrderSpec.vars false W args.toList ds gs before) (hL : laidMetH Tryd.prog Rows.vectorOrderRow.laid W) :
    Calls Tryd.prog 7 args W fun e W' => ∃ v, e = .returned v ∧ Rows.vectorOrderSpec.post enc Tryd.prog Tryd.f7 false true false false W args v W' := by
  have hW' := hW
  obtain ⟨p, q, hA0, hV, rfl, hfz, hnd⟩ := hW
  have hA : DataW.TrodAll enc Tryd.prog W 0 (fun _ => true) true Tryd.f7.params.toList args.toList ds p := hA0
  rw [Tryd.params7] at hA hval
  obtain ⟨v0, vs0, d0, ds0, p0, q0, hargs, rfl, rfl, h0, r0⟩ := trodAll_cons hA
  obtain ⟨v1, vs1, d1, ds1, p1, q1, rfl, rfl, rfl, h1, r1⟩ := trodAll_cons r0
  obtain ⟨v2, vs2, d2, ds2, p2, q2, rfl, rfl, rfl, h2, r2⟩ := trodAll_cons r1
  obtain ⟨rfl, rfl, rfl⟩ := trodAll_nil r2
  obtain rfl : args = #[v0, v1, v2] := by cases args; simp_all
  obtain ⟨a0, g0⟩ := reads_vec (hval 0 22 v0 rfl rfl) h0
  obtain ⟨a1, g1⟩ := reads_vec (hval 1 22 v1 rfl rfl) h1
  obtain ⟨a2, g2⟩ := reads_vec (hval 2 22 v2 rfl rfl) h2
  refine (law_calls (Vec.order_h a0 a1 a2) (globs rfl hL) (.cons g0 (.cons g1 (.cons g2 .nil)))).mono fun e W' ⟨he, hk⟩ => ?_
  subst he
  exact ⟨_, rfl, law_post (ds := [d0, d1, d2]) laidOut rowed (slices_full_of _ full) rfl rfl (fun t ht => by rw [Tryd.params7] at ht; have : (#[22, 22, 22] : Array TypeId).toList.all (fun t => decide (t < Tryd.prog.types.size)) = true := (by kernel_rfl); exact of_decide_eq_true (List.all_eq_true.1 this t ht)) rfl Tryd.underlying4 hW' hk⟩

theorem vectorOrder_reads (os : Os) {H : Type} (enc : TypeId × Value → H) : ∃ places, DataW.whole enc Tryd.prog ((World.doorLaid Tryd.prog 600 os).forCall (fun _ _ => 0) ⟨#[], #[.slice none 0 0, .slice none 0 0, .slice none 0 0], []⟩).memory Tryd.f7.params.toList Rows.vectorOrderSpec.vars false (#[.slice none 0 0, .slice none 0 0, .slice none 0 0] : Array Value).toList 8 = some ([.nil, .nil, .nil], [], places) :=
  ⟨[], by kernel_rfl⟩

set_option maxRecDepth 100000 in
theorem vectorOrder_lifted (os : Os) (started : os.Started) (H : Type) (enc : TypeId × Value → H) (F : Stop.Interp) :
    ReturnsInHanded {} Tryd.checked os 7 .any ((OpenSpec.ofChange Rows.vectorOrderSpec).preRow enc Tryd.prog Tryd.f7 Rows.vectorOrderRow.domain false Rows.vectorOrderRow.laid) (((OpenSpec.ofChange Rows.vectorOrderSpec).at F).post enc Tryd.prog Tryd.f7 false true false false) := by
  obtain ⟨places, hx⟩ := vectorOrder_reads os enc
  refine returnsInHanded_of_row (C := Tryd.checked) (s := OpenSpec.ofChange Rows.vectorOrderSpec) own started (by kernel_rfl) Tryd.func7
    (witness_row_at (enc := enc) (C := Tryd.checked) false (World.doorLaid Tryd.prog 600 os) #[.slice none 0 0, .slice none 0 0, .slice none 0 0] rfl (by kernel_rfl) (by kernel_rfl) (by kernel_rfl)
      (OpenSpec.preRow_of_cond 8 hx (by kernel_rfl) (fun k hk => by cases hk) (by kernel_rfl) (door_met os _))) ?_
  intro W base args ds gs before hval hW _ _ _ hL _ _
  exact vectorOrder_contract H enc W base args ds gs before hval hW hL

theorem vectorOrder_said : Rows.VectorOrderSaid :=
  OpenClaim.holds_of_cond 7 Tryd.f7 rfl rfl rfl rfl rfl rfl rfl ⟨rfl, rfl, rfl, rfl, rfl⟩ rfl rfl rfl rfl rfl (by kernel_rfl) Tryd.func7 (by kernel_rfl)
    (of_decide_eq_true (by kernel_rfl)) (by unfold Func.isWrapper; first | (rw [if_pos (by decide +kernel)]; kernel_rfl) | (rw [if_neg (by decide +kernel)]; exact ⟨rfl, rfl⟩))
    (fun os started H enc _ F => by rw [OpenClaim.pre_eq_preRow]; exact vectorOrder_lifted os started H enc F)

theorem vectorOrder_plain (f : FuncId) (fn : Func) (hf : Tryd.pinned.checked.prog.funcNamed "chartroom/chartroomlaw12.VectorOrder" = some f) (hfn : Tryd.pinned.checked.prog.funcs[f]? = some fn) :
    false = Tryd.pinned.checked.prog.looks [] ∧ ∀ (j : Nat) t, fn.params[j]? = some t → Tryd.pinned.checked.prog.wantsStandIn t = false := by
  obtain rfl : f = 7 := Option.some.inj ((show Tryd.prog.funcNamed "chartroom/chartroomlaw12.VectorOrder" = some 7 by kernel_rfl).symm.trans hf) |>.symm
  obtain rfl : fn = Tryd.f7 := (Option.some.inj (Tryd.func7.symm.trans hfn)).symm
  refine ⟨by kernel_rfl, fun j t ht => ?_⟩
  rw [Tryd.params7] at ht
  have hall : (#[22, 22, 22] : Array TypeId).toList.all (fun t => !Tryd.prog.wantsStandIn t) = true := by kernel_rfl
  have := List.all_eq_true.1 hall t (by simpa using Array.mem_of_getElem? ht)
  exact (Bool.not_eq_true' _).mp this

theorem vectorOrder_card : Rows.VectorOrderCardSaid :=
  Claim7.holds_tied_plain_at .later [] _ _ _ _ vectorOrder_said (fun _ h => by cases h) (by kernel_rfl) (fun _ h => by cases h) vectorOrder_row_tie rfl ⟨rfl, rfl⟩ (by kernel_rfl) rfl vectorOrder_plain (by kernel_rfl)
end Go.Proofs.YtpnoncfhclchdaaDoor
