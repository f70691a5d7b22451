import Derived.Test.YtkckmpmlbmdalaaDoorQ12
import Derived.Test.YtkckmpmlbmdalaaDoorCards
import Derived.Test.YtkckmpmlbmdalaaDoorTie
import Derived.ProofKit
import Derived.OpenShut
import Derived.LaidMore
import Derived.Maps.RangeWalk
import Derived.Deep.DeepHandedRow
/- OPS, closing 1: what the package's variables hold, from what the row lists. -/
namespace Go.Proofs.YtkckmpmlbmdalaaDoor
set_option maxRecDepth 100000
open Go Go.Am Go.ChangeShapes Go.WideShapes Go.RowKit Go.Seat

theorem gK : Tryd.prog.globalNamed "chartroom/ops.kinds" = some 0 := by kernel_rfl
theorem gG : Tryd.prog.globalNamed "chartroom/vector.greater" = some 1 := by kernel_rfl
theorem tK : (Tryd.prog.globals[0]?).map (·.type) = some 65 := by kernel_rfl
theorem tG : (Tryd.prog.globals[1]?).map (·.type) = some 92 := by kernel_rfl
theorem c92 : Tryd.prog.cellsOf 92 = 1 := by kernel_rfl
theorem c90 : Tryd.prog.cellsOf 90 = 1 := by kernel_rfl
theorem c63 : Tryd.prog.cellsOf 63 = 2 := by kernel_rfl
theorem c32 : Tryd.prog.cellsOf 32 = 1 := by kernel_rfl
theorem c3 : Tryd.prog.cellsOf 3 = 1 := by kernel_rfl

/-- A rule's cell, from what the row lists. -/
theorem rule_cell {W : World} {n : String} {g f0 : Nat} {b : UInt8} {r : List UInt8} (hg : Tryd.prog.globalNamed n = some g) (ht : (Tryd.prog.globals[g]?).map (·.type) = some 92)
    (hone : ((List.range Tryd.prog.funcs.size).filter fun f => (Tryd.prog.funcs[f]?).any (·.name.toUTF8.data.toList == b :: r)) = [f0])
    (h : funcsAt Tryd.prog W n (.agg [.iface "func" (.lit (.string (b :: r)))])) : W.cell? ⟨g, 0, none⟩ = some (.func (.func f0) #[] #[]) := by
  obtain ⟨g', t, cs, fuel, p, hg', ht', hv, hd⟩ := h
  obtain rfl := Option.some.inj (hg.symm.trans hg')
  obtain rfl := Option.some.inj (ht.symm.trans ht')
  obtain ⟨xs, m, _, hx, hl, hxl, hf⟩ := DataW.trod_struct Tryd.underlying92 hd
  have h0 := hf 0 _ rfl
  rw [c92] at hl
  obtain ⟨v, hcs⟩ : ∃ v, cs.toList = [v] := by
    match cs.toList, hl with
    | [v], _ => exact ⟨v, rfl⟩
  rw [hcs] at h0
  have hc1 : ((([v] : List Value).drop 0).take (Tryd.prog.cellsOf 90)) = [v] := by rw [c90]; rfl
  have h1 : DataW.trod (funcToken Tryd.prog) Tryd.prog W 0 (fun _ => true) true m 90 [v] = xs[0]? := by rw [← hc1]; exact h0
  have hx1 : (DataW.agg [.iface "func" (.lit (.string (b :: r)))] : DataW Unit).funcsOut = .agg [.held (b :: r)] := by
    simp [DataW.funcsOut, DataW.funcsOutAll]
  rw [hx1] at hx
  injection hx with hx2 hx3
  injection hx2 with hx4
  match xs, hxl with
  | [y], _ =>
    have hy : y.1 = .held (b :: r) := by simpa using hx4.symm
    have h2 : DataW.trod (funcToken Tryd.prog) Tryd.prog W 0 (fun _ => true) true m 90 [v] = some (.held (b :: r), y.2) := by rw [h1, ← hy]; rfl
    obtain rfl := func_of_trod (f0 := f0) Tryd.underlying90 hone h2
    have := World.var?_cell hg hv 0
    rw [Array.eq_one_of_toList hcs] at this
    simpa using this

/-- One kind's entry. -/
theorem kind_ent {W : World} {n : Nat} {x : MapEntry} {i pt : Int} {b : UInt8} {r : List UInt8} {f0 : Nat}
    (hone : ((List.range Tryd.prog.funcs.size).filter fun f => (Tryd.prog.funcs[f]?).any (·.name.toUTF8.data.toList == b :: r)) = [f0])
    (h : WideElems.rd Tryd.prog 3 (WideElems.elemAt (funcToken Tryd.prog) Tryd.prog W 0 (fun _ => true) true n 63) x = some (.int .i64 i, .agg [.lit (.int .i64 pt), .held (b :: r)])) :
    x.key = .int .i64 i ∧ PRep W (fun _ => False) (.agg [Am.int pt, fnV f0]) x.val := by
  obtain ⟨k, hk, e, _⟩ := Maps.keyOf_int_inv Tryd.underlying3 (WideElems.rd_key h)
  obtain rfl : i = k := by cases e; rfl
  refine ⟨hk, ?_⟩
  obtain ⟨z, hz, hy⟩ := WideElems.rd_val h
  unfold WideElems.elemAt at hz
  split at hz
  · obtain ⟨xs, m, _, hx, hl, hxl, hf⟩ := DataW.trod_struct Tryd.underlying63 hz
    rw [c63] at hl
    have h0 := hf 0 _ rfl
    have h1 := hf 1 _ rfl
    obtain ⟨u, v, hcs⟩ : ∃ u v, x.val.cells.toList = [u, v] := by
      match x.val.cells.toList, hl with
      | [u, v], _ => exact ⟨u, v, rfl⟩
    rw [hcs] at h0 h1
    have g0 : DataW.trod (funcToken Tryd.prog) Tryd.prog W 0 (fun _ => true) true m 3 [u] = xs[0]? := by
      have : ((([u, v] : List Value).drop 0).take (Tryd.prog.cellsOf 3)) = [u] := by rw [c3]; rfl
      rw [← this]; exact h0
    have g1 : DataW.trod (funcToken Tryd.prog) Tryd.prog W 0 (fun _ => true) true m 32 [v] = xs[1]? := by
      have : ((([u, v] : List Value).drop 1).take (Tryd.prog.cellsOf 32)) = [v] := by rw [c32]; rfl
      rw [← this]; exact h1
    rw [hx] at hy
    match xs, hxl with
    | [y0, y1], _ =>
      simp only [List.map_cons, List.map_nil, DataW.agg.injEq, List.cons.injEq, and_true] at hy
      obtain ⟨k, e1, e2, _⟩ := DataW.trod_int Tryd.underlying3 (show DataW.trod _ Tryd.prog W 0 _ true m 3 [u] = some y0 from g0)
      obtain rfl : pt = k := by rw [e2] at hy; simpa using hy.1
      have hu : u = .int .i64 pt := by simpa using e1
      have h2 : DataW.trod (funcToken Tryd.prog) Tryd.prog W 0 (fun _ => true) true m 32 [v] = some (.held (b :: r), y1.2) := by rw [g1, hy.2]; rfl
      have hv := func_of_trod (f0 := f0) Tryd.underlying32 hone h2
      have hval : x.val = .agg #[u, v] := by
        cases hc : x.val <;> rw [hc] at hcs <;> simp [Value.cells] at hcs
        rename_i cs
        obtain ⟨l⟩ := cs
        simp at hcs
        rw [hcs]
      rw [hval, hu, hv]
      refine .agg _ [_, _] rfl fun j hj => ?_
      match j, hj with
      | 0, _ => exact .lit _
      | 1, _ => exact .lit _
  · cases hz

def kindsT : List (Lit × DataW Unit) := [(.int .i64 1, .agg [.lit (.int .i64 1), .iface "func" (.lit (.string [99, 104, 97, 114, 116, 114, 111, 111, 109, 47, 111, 112, 115, 46, 107, 105, 110, 100, 115, 36, 49]))]), (.int .i64 2, .agg [.lit (.int .i64 1), .iface "func" (.lit (.string [99, 104, 97, 114, 116, 114, 111, 111, 109, 47, 111, 112, 115, 46, 107, 105, 110, 100, 115, 36, 50]))]), (.int .i64 3, .agg [.lit (.int .i64 2), .iface "func" (.lit (.string [99, 104, 97, 114, 116, 114, 111, 111, 109, 47, 111, 112, 115, 46, 107, 105, 110, 100, 115, 36, 51]))]), (.int .i64 4, .agg [.lit (.int .i64 2), .iface "func" (.lit (.string [99, 104, 97, 114, 116, 114, 111, 111, 109, 47, 111, 112, 115, 46, 107, 105, 110, 100, 115, 36, 52]))]), (.int .i64 5, .agg [.lit (.int .i64 3), .iface "func" (.lit (.string [99, 104, 97, 114, 116, 114, 111, 111, 109, 47, 111, 112, 115, 46, 107, 105, 110, 100, 115, 36, 53]))]), (.int .i64 6, .agg [.lit (.int .i64 4), .iface "func" (.lit (.string [99, 104, 97, 114, 116, 114, 111, 111, 109, 47, 111, 112, 115, 46, 107, 105, 110, 100, 115, 36, 54]))]), (.int .i64 7, .agg [.lit (.int .i64 4), .iface "func" (.lit (.string [99, 104, 97, 114, 116, 114, 111, 111, 109, 47, 111, 112, 115, 46, 107, 105, 110, 100, 115, 36, 55]))]), (.int .i64 8, .agg [.lit (.int .i64 4), .iface "func" (.lit (.string [99, 104, 97, 114, 116, 114, 111, 111, 109, 47, 111, 112, 115, 46, 107, 105, 110, 100, 115, 36, 56]))])]
def kindsD : List (Lit × DataW (List UInt8)) := [(.int .i64 1, .agg [.lit (.int .i64 1), .held [99, 104, 97, 114, 116, 114, 111, 111, 109, 47, 111, 112, 115, 46, 107, 105, 110, 100, 115, 36, 49]]), (.int .i64 2, .agg [.lit (.int .i64 1), .held [99, 104, 97, 114, 116, 114, 111, 111, 109, 47, 111, 112, 115, 46, 107, 105, 110, 100, 115, 36, 50]]), (.int .i64 3, .agg [.lit (.int .i64 2), .held [99, 104, 97, 114, 116, 114, 111, 111, 109, 47, 111, 112, 115, 46, 107, 105, 110, 100, 115, 36, 51]]), (.int .i64 4, .agg [.lit (.int .i64 2), .held [99, 104, 97, 114, 116, 114, 111, 111, 109, 47, 111, 112, 115, 46, 107, 105, 110, 100, 115, 36, 52]]), (.int .i64 5, .agg [.lit (.int .i64 3), .held [99, 104, 97, 114, 116, 114, 111, 111, 109, 47, 111, 112, 115, 46, 107, 105, 110, 100, 115, 36, 53]]), (.int .i64 6, .agg [.lit (.int .i64 4), .held [99, 104, 97, 114, 116, 114, 111, 111, 109, 47, 111, 112, 115, 46, 107, 105, 110, 100, 115, 36, 54]]), (.int .i64 7, .agg [.lit (.int .i64 4), .held [99, 104, 97, 114, 116, 114, 111, 111, 109, 47, 111, 112, 115, 46, 107, 105, 110, 100, 115, 36, 55]]), (.int .i64 8, .agg [.lit (.int .i64 4), .held [99, 104, 97, 114, 116, 114, 111, 111, 109, 47, 111, 112, 115, 46, 107, 105, 110, 100, 115, 36, 56]])]
theorem kinds_out : (DataW.map kindsT).funcsOut = .map kindsD := by
  simp [kindsT, kindsD, DataW.funcsOut, DataW.funcsOutEntries, DataW.funcsOutAll]
def kAV (i : Int) : AV := if i = 1 then .agg [Am.int 1, fnV 115] else if i = 2 then .agg [Am.int 1, fnV 117] else if i = 3 then .agg [Am.int 2, fnV 119] else if i = 4 then .agg [Am.int 2, fnV 120] else if i = 5 then .agg [Am.int 3, fnV 121] else if i = 6 then .agg [Am.int 4, fnV 122] else if i = 7 then .agg [Am.int 4, fnV 123] else if i = 8 then .agg [Am.int 4, fnV 124] else .dead
def hK (y : Lit × DataW (List UInt8)) : Value × AV := match y.1 with
  | .int .i64 i => (.int .i64 i, kAV i)
  | _ => (undef, .dead)
theorem kinds_h : kindsD.map hK = kindsE := by
  simp [kindsD, hK, kindsE, kAV]
theorem kind_in {W : World} {n : Nat} {x : MapEntry} {y : Lit × DataW (List UInt8)} (hy : y ∈ kindsD)
    (h : WideElems.rd Tryd.prog 3 (WideElems.elemAt (funcToken Tryd.prog) Tryd.prog W 0 (fun _ => true) true n 63) x = some y) : x.key = (hK y).1 ∧ PRep W (fun _ => False) (hK y).2 x.val := by
  simp only [kindsD, List.mem_cons, List.not_mem_nil, or_false] at hy
  rcases hy with rfl | rfl | rfl | rfl | rfl | rfl | rfl | rfl
  · exact kind_ent (f0 := 115) (by kernel_rfl) h
  · exact kind_ent (f0 := 117) (by kernel_rfl) h
  · exact kind_ent (f0 := 119) (by kernel_rfl) h
  · exact kind_ent (f0 := 120) (by kernel_rfl) h
  · exact kind_ent (f0 := 121) (by kernel_rfl) h
  · exact kind_ent (f0 := 122) (by kernel_rfl) h
  · exact kind_ent (f0 := 123) (by kernel_rfl) h
  · exact kind_ent (f0 := 124) (by kernel_rfl) h

theorem getD_map {α β : Type} (g : α → β) (l : List α) (j : Nat) (h : j < l.length) (d : β) : (l.map g).getD j d = g l[j] := by
  rw [List.getD_eq_getElem?_getD, List.getElem?_map, List.getElem?_eq_getElem h]; rfl

/-- The kinds, from what the row lists. -/
theorem kinds_cell {W : World} (h : funcsAt Tryd.prog W "chartroom/ops.kinds" (.map kindsT)) : ∃ u, W.cell? ⟨0, 0, none⟩ = some u ∧ PRep W (fun _ => False) (.md kindsE) u := by
  obtain ⟨g', t, cs, fuel, p, hg', ht', hv, hd⟩ := h
  obtain rfl := Option.some.inj (gK.symm.trans hg')
  obtain rfl := Option.some.inj (tK.symm.trans ht')
  rw [kinds_out] at hd
  rcases WideElems.open_map Tryd.underlying65 hd with ⟨_, hx⟩ | ⟨b, es, clock, n, rfl, hcs, hb, _, F, hx⟩
  · simp at hx
  · simp only [Prod.mk.injEq, DataW.map.injEq] at hx
    have hcell := World.var?_cell gK hv 0
    rw [Array.eq_one_of_toList hcs] at hcell
    refine ⟨.map (some b), by simpa using hcell, ?_⟩
    have hp := sorted_perm (es.toList.map (WideElems.rg Tryd.prog 3 (WideElems.elemAt (funcToken Tryd.prog) Tryd.prog W 0 (fun _ => true) true n 63)))
    rw [← hx.1] at hp
    have key : ∀ x ∈ es.toList, x.key = (hK (WideElems.rg Tryd.prog 3 (WideElems.elemAt (funcToken Tryd.prog) Tryd.prog W 0 (fun _ => true) true n 63) x)).1 ∧ PRep W (fun _ => False) (hK (WideElems.rg Tryd.prog 3 (WideElems.elemAt (funcToken Tryd.prog) Tryd.prog W 0 (fun _ => true) true n 63) x)).2 x.val := fun x hx' => by
      obtain ⟨y, hy⟩ := F.reads x hx'
      have hm : WideElems.rg Tryd.prog 3 (WideElems.elemAt (funcToken Tryd.prog) Tryd.prog W 0 (fun _ => true) true n 63) x ∈ kindsD := hp.mem_iff.2 (List.mem_map_of_mem hx')
      rw [WideElems.rg_of hy] at hm ⊢
      exact kind_in hm hy
    have hp2 := (hp.map hK).symm
    rw [kinds_h, List.map_map] at hp2
    refine .md kindsE _ hp2 b es.toList clock (fun h => h) (by simpa using hb) ?_ ?_ fun j hj => ?_
    · rw [List.map_map]
      exact List.map_congr_left fun x hx' => (key x hx').1
    · exact (hp2.map _).nodup_iff.2 (by simp [kindsE])
    · rw [List.length_map] at hj
      unfold atE atV
      rw [getD_map _ _ _ hj, List.getD_eq_getElem?_getD, List.getElem?_eq_getElem hj]
      exact (key _ (List.getElem_mem hj)).2

theorem globs {W : World} {laid : List (String × DataW Unit)} (hl : laid = [("chartroom/vector.greater", Rows.laid_chartroom_vector_greater), ("chartroom/ops.kinds", Rows.laid_chartroom_ops_kinds)]) (h : laidMetH Tryd.prog laid W) :
    ∀ g cs, G g = some cs → PRep W (fun _ => False) (.imm cs) (.pointer (some ⟨g, 0, none⟩)) := by
  subst hl
  have h1 : W.cell? ⟨1, 0, none⟩ = some (.func (.func 125) #[] #[]) := rule_cell gG tG (by kernel_rfl) (h.funcs (List.mem_cons_self ..))
  obtain ⟨u, hu, hk⟩ := kinds_cell (h.funcs (List.mem_cons_of_mem _ (List.mem_cons_self ..)))
  intro g cs hg
  unfold G at hg
  split at hg
  · rename_i e; subst e; cases hg
    exact .imm _ _ (fun _ => _) rfl (fun _ h => h) (fun j hj => by match j, hj with | 0, _ => exact h1) (fun j hj => by match j, hj with | 0, _ => exact .lit _)
  · split at hg
    · rename_i e; subst e; cases hg
      exact .imm _ _ (fun _ => u) rfl (fun _ h => h) (fun j hj => by match j, hj with | 0, _ => exact hu) (fun j hj => by match j, hj with | 0, _ => exact hk)
    · cases hg
theorem door_met (os : Os) (args : Array Value) : laidMetH Tryd.prog [("chartroom/vector.greater", Rows.laid_chartroom_vector_greater), ("chartroom/ops.kinds", Rows.laid_chartroom_ops_kinds)] ((World.doorLaid Tryd.prog 600 os).forCall (fun _ _ => 0) ⟨#[], args, []⟩).memory :=
  laidMetH_of_parts3 (fuel := 8) (laidMet_of_run' 8 (by kernel_rfl) (by kernel_rfl)) (by kernel_rfl) (by kernel_rfl)

end Go.Proofs.YtkckmpmlbmdalaaDoor
