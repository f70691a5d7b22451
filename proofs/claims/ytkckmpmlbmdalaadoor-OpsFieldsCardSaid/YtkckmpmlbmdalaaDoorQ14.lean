import Derived.Test.YtkckmpmlbmdalaaDoorQ13
import Derived.SizedLaws
/- OPS, closing 2: the statements' arguments as data. -/
namespace Go.Proofs.YtkckmpmlbmdalaaDoor
set_option maxRecDepth 100000
open Go Go.Am Go.ChangeShapes Go.WideShapes Go.RowKit Go.Seat Go.Vec Go.Cdc Go.Ops

theorem c4 : Tryd.prog.cellsOf 4 = 1 := by kernel_rfl
theorem c5 : Tryd.prog.cellsOf 5 = 1 := by kernel_rfl
theorem c9 : Tryd.prog.cellsOf 9 = 1 := by kernel_rfl
theorem c23 : Tryd.prog.cellsOf 23 = 2 := by kernel_rfl
theorem c24 : Tryd.prog.cellsOf 24 = 1 := by kernel_rfl
theorem c26 : Tryd.prog.cellsOf 26 = 2 := by kernel_rfl
theorem c28 : Tryd.prog.cellsOf 28 = 3 := by kernel_rfl
theorem c30 : Tryd.prog.cellsOf 30 = 17 := by kernel_rfl
noncomputable def cInt : Cod Tryd.prog 3 Int := Cod.int Tryd.underlying3 c3
noncomputable def cStr : Cod Tryd.prog 9 ByteArray := Cod.str Tryd.underlying9 c9
noncomputable def cBool : Cod Tryd.prog 4 Bool := Cod.bool Tryd.underlying4 c4
noncomputable def cDot : Cod Tryd.prog 23 D := Cod.struct Tryd.underlying23 (by kernel_rfl) (FCod.cons cInt rfl (FCod.cons cInt (by kernel_rfl) FCod.nil)) (fun a => (a.1, a.2.1)) Vec.enc (fun _ => rfl) (fun _ => c23.symm)
noncomputable def cVec : Cod Tryd.prog 24 (List D) := Cod.slice Tryd.underlying24 c24 (by rw [c23]; decide) cDot
theorem cVec_enc (v : List D) : cVec.enc v = [vec v] := by
  show [AV.sl (Tryd.prog.cellsOf 23) false (v.map Vec.enc)] = [AV.sl 2 false (v.map Vec.enc)]
  rw [c23]
noncomputable def cPart : Cod Tryd.prog 26 (Int × ByteArray) := Cod.struct Tryd.underlying26 (by kernel_rfl) (FCod.cons cInt rfl (FCod.cons cStr (by kernel_rfl) FCod.nil)) (fun a => (a.1, a.2.1)) (fun a => [Am.int a.1, Am.str a.2]) (fun _ => rfl) (fun _ => c26.symm)
noncomputable def cID : Cod Tryd.prog 28 (Int × Int × Int) := Cod.struct Tryd.underlying28 (by kernel_rfl) (FCod.cons cInt rfl (FCod.cons cInt (by kernel_rfl) (FCod.cons cInt (by kernel_rfl) FCod.nil))) (fun a => (a.1, a.2.1, a.2.2.1)) (fun a => [Am.int a.1, Am.int a.2.1, Am.int a.2.2]) (fun _ => rfl) (fun _ => c28.symm)
abbrev AO := D × Int × List D × (Int × ByteArray) × Int × (Int × Int × Int) × (Int × Int × Int) × ByteArray × ByteArray × Int × Bool × Unit
noncomputable def cOp : Cod Tryd.prog 30 OP := Cod.struct Tryd.underlying30 (by kernel_rfl) (FCod.cons cDot rfl (FCod.cons cInt (by kernel_rfl) (FCod.cons cVec (by kernel_rfl) (FCod.cons cPart (by kernel_rfl) (FCod.cons cInt (by kernel_rfl) (FCod.cons cID (by kernel_rfl) (FCod.cons cID (by kernel_rfl) (FCod.cons cStr (by kernel_rfl) (FCod.cons cStr (by kernel_rfl) (FCod.cons cInt (by kernel_rfl) (FCod.cons cBool (by kernel_rfl) FCod.nil)))))))))))
  (fun a : AO => ⟨a.1.1, a.1.2, a.2.1, a.2.2.1, a.2.2.2.1.1, a.2.2.2.1.2, a.2.2.2.2.1, a.2.2.2.2.2.1.1, a.2.2.2.2.2.1.2.1, a.2.2.2.2.2.1.2.2, a.2.2.2.2.2.2.1.1, a.2.2.2.2.2.2.1.2.1, a.2.2.2.2.2.2.1.2.2, a.2.2.2.2.2.2.2.1, a.2.2.2.2.2.2.2.2.1, a.2.2.2.2.2.2.2.2.2.1, a.2.2.2.2.2.2.2.2.2.2.1⟩) opc
  (fun a : AO => by
    show opc _ = Vec.enc a.1 ++ ([Am.int a.2.1] ++ (cVec.enc a.2.2.1 ++ ([Am.int a.2.2.2.1.1, Am.str a.2.2.2.1.2] ++ ([Am.int a.2.2.2.2.1] ++ ([Am.int a.2.2.2.2.2.1.1, Am.int a.2.2.2.2.2.1.2.1, Am.int a.2.2.2.2.2.1.2.2] ++ ([Am.int a.2.2.2.2.2.2.1.1, Am.int a.2.2.2.2.2.2.1.2.1, Am.int a.2.2.2.2.2.2.1.2.2] ++ ([Am.str a.2.2.2.2.2.2.2.1] ++ ([Am.str a.2.2.2.2.2.2.2.2.1] ++ ([Am.int a.2.2.2.2.2.2.2.2.2.1] ++ ([Am.bool a.2.2.2.2.2.2.2.2.2.2.1] ++ []))))))))))
    rw [cVec_enc]; rfl) (fun _ => c30.symm)
theorem cOp_okp {o : OP} (h : cOp.good o) : Okp o := by
  obtain ⟨⟨⟨_, _⟩, _, _, ⟨_, _⟩, _, ⟨_, _, _⟩, ⟨_, _, _⟩, _, _, _, _, _⟩, rfl, ⟨⟨_, _, _⟩, ed, d1, d2, _⟩, h1, h2, ⟨⟨_, _, _⟩, ep, p1, p2, _⟩, h4, ⟨⟨_, _, _, _⟩, ef, f1, f2, f3, _⟩, ⟨⟨_, _, _, _⟩, et, t1, t2, t3, _⟩, h7, h8, h9, _⟩ := h
  cases ed; cases ep; cases ef; cases et
  refine ⟨d1, d2, h1, fun x hx => ?_, p1, h4, f1, f2, f3, t1, t2, t3, h9⟩
  obtain ⟨⟨_, _, _⟩, rfl, q1, q2, _⟩ := h2.2 x hx
  exact ⟨q1, q2⟩

theorem str_cell {s : ByteArray} {W : World} {v : Value} (h : PRep W (fun _ => False) (Am.str s) v) : v = .string s := by
  cases h; rfl
theorem str_size {H : Type} {e : TypeId × Value → H} {W : World} {n : Nat} {s : ByteArray} {cs : List Value} {x : DataW H × List MemPlace} (hcs : cs = [.string s]) (h : DataW.trod e Tryd.prog W 0 (fun _ => true) true n 9 cs = some x) : x.1 = .lit (.string s.data.toList) := by
  obtain ⟨s', e1, rfl, _⟩ := DataW.trod_string Tryd.underlying9 h
  rw [hcs] at e1
  cases e1; rfl

/-- An operation's argument. -/
theorem reads_op {H : Type} {enc : TypeId × Value → H} {W : World} {base : Nat} {v : Value} {d : DataW H} {ps : List MemPlace} (hv : Value.okWide Tryd.prog W .any base 30 v) (h : DataW.Trod enc Tryd.prog W 0 (fun _ => true) true 30 v d ps)
    (hw : ∀ n ∈ d.weights Tryd.prog 30, n ≤ reachBytes) : ∃ o : OP, (Okp o ∧ Sz o) ∧ Rep (view0 W) (op o) v := by
  have hagg : ∃ cs, v = .agg cs := by
    unfold Value.okWide at hv
    rw [Tryd.underlying30] at hv
    exact ⟨_, hv.choose_spec.1⟩
  obtain ⟨⟨cs⟩, rfl⟩ := hagg
  obtain ⟨n, hn⟩ := h
  have hn' : DataW.trod enc Tryd.prog W 0 (fun _ => true) true n 30 cs = some (d, ps) := hn
  obtain ⟨o, g, hl, hp⟩ := cOp.rd hn'
  have hl' : cs.length = 17 := hl
  obtain ⟨xs, m, _, hx, _, hxl, hf⟩ := DataW.trod_struct Tryd.underlying30 hn'
  have hxl' : xs.length = 11 := hxl
  have one : ∀ i, i < 17 → (cs.drop i).take 1 = [cs.getD i undef] := fun i hi => by
    rw [List.take_one, List.head?_drop, List.getD_eq_getElem?_getD, List.getElem?_eq_getElem (by omega)]; rfl
  have hd : d = .agg (xs.map (·.1)) := by cases hx; rfl
  subst hd
  have wt : ∀ (i : Nat) (t : TypeId) (y : DataW H × List MemPlace), [23, 3, 24, 26, 3, 28, 28, 9, 9, 3, 4][i]? = some t → xs[i]? = some y → ∀ k ∈ y.1.weights Tryd.prog t, k ≤ reachBytes := fun i t y ht hy k hk => by
    refine hw k ?_
    unfold DataW.weights
    rw [Tryd.underlying30]
    exact DataW.weights_mem_each (j := i) (t := t) (d := y.1) ht (by rw [List.getElem?_map, hy]; rfl) k hk
  have sz : ∀ (i off : Nat) (s : ByteArray) (f : Field), off < 17 → f.type = 9 → f.offset = off → [23, 3, 24, 26, 3, 28, 28, 9, 9, 3, 4][i]? = some 9 → cs.getD off undef = .string s → i < 11 →
      DataW.trod enc Tryd.prog W 0 (fun _ => true) true m f.type ((cs.drop f.offset).take (Tryd.prog.cellsOf f.type)) = xs[i]? → s.size ≤ reachBytes := fun i off s f ho ht hof hi hs hi11 h => by
    rw [ht, hof, c9, one off ho, List.getElem?_eq_getElem (by omega)] at h
    have := wt i 9 _ hi (List.getElem?_eq_getElem (by omega))
    rw [str_size (by rw [hs]) h] at this
    simpa [DataW.weights] using this
  have hky : o.ky.size ≤ reachBytes := sz 7 13 _ _ (by decide) rfl rfl rfl (str_cell (hp 13 (by omega)).1) (by decide) (hf 7 _ rfl)
  have hvl : o.vl.size ≤ reachBytes := sz 8 14 _ _ (by decide) rfl rfl rfl (str_cell (hp 14 (by omega)).1) (by decide) (hf 8 _ rfl)
  have hpn : o.pn.size ≤ reachBytes := by
    have h3 := hf 3 _ rfl
    rw [List.getElem?_eq_getElem (by omega)] at h3
    have w3 := wt 3 26 _ rfl (List.getElem?_eq_getElem (by omega))
    obtain ⟨zs, m2, _, hz, _, hzl, hg⟩ := DataW.trod_struct Tryd.underlying26 h3
    have hzl' : zs.length = 2 := hzl
    have h1 := hg 1 _ rfl
    rw [hz] at w3
    have e1 : ((((cs.drop 4).take (Tryd.prog.cellsOf 26)).drop 1).take (Tryd.prog.cellsOf 9)) = [cs.getD 5 undef] := by
      rw [c26, c9, List.drop_take, List.drop_drop, List.take_take]
      exact one 5 (by decide)
    have h1' : DataW.trod enc Tryd.prog W 0 (fun _ => true) true m2 9 [cs.getD 5 undef] = zs[1]? := by rw [← e1]; exact h1
    rw [List.getElem?_eq_getElem (by omega), str_cell (hp 5 (by omega)).1] at h1'
    have e2 := str_size rfl h1'
    refine w3 _ ?_
    unfold DataW.weights
    rw [Tryd.underlying26]
    refine DataW.weights_mem_each (j := 1) (t := 9) (d := zs[1].1) rfl (by rw [List.getElem?_map, List.getElem?_eq_getElem (by omega)]; rfl) _ ?_
    rw [e2]
    simp [DataW.weights]
  refine ⟨o, ⟨cOp_okp g, ?_⟩, .agg _ _ hl fun j hj => .pure _ _ (hp j (by rw [hl]; exact hj)).1⟩
  unfold reachBytes at hky hvl hpn
  exact ⟨by omega, by omega, by omega⟩

end Go.Proofs.YtkckmpmlbmdalaaDoor
namespace Go.Ops
open Go Go.Am Go.Seat
end Go.Ops

/- OPS, closing 3: bytes as arguments. -/
namespace Go.Proofs.YtkckmpmlbmdalaaDoor
set_option maxRecDepth 100000
open Go Go.Am Go.ChangeShapes Go.WideShapes Go.RowKit Go.Seat Go.Vec Go.Cdc Go.Ops

theorem wf_u8 {n : Int} (h : (Lit.int .u8 n).wf = true) : 0 ≤ n ∧ n < 256 := by
  simp [Lit.wf, IntKind.min, IntKind.max, IntKind.signed, IntKind.bits] at h
  omega
noncomputable def cU8 : Cod Tryd.prog 5 UInt8 where
  enc c := [u8 c]
  good _ := True
  size _ := c5.symm
  rd h := by
    obtain ⟨n, rfl, _, hw⟩ := DataW.trod_int Tryd.underlying5 h
    have hr := wf_u8 hw
    have e : ((UInt8.ofNat n.toNat).toNat : Int) = n := by
      rw [UInt8.toNat_ofNat']
      have : n.toNat % 2 ^ 8 = n.toNat := Nat.mod_eq_of_lt (by omega)
      omega
    refine ⟨UInt8.ofNat n.toNat, trivial, rfl, fun j hj => ?_⟩
    match j, hj with
    | 0, _ =>
      refine ⟨?_, rfl⟩
      show PRep _ _ (.lit (.int .u8 ((UInt8.ofNat n.toNat).toNat : Int))) (.int .u8 n)
      rw [e]
      exact .lit _
end Go.Proofs.YtkckmpmlbmdalaaDoor

/- OPS, closing 4: vectors and small numbers as arguments. -/
namespace Go.Proofs.YtkckmpmlbmdalaaDoor
set_option maxRecDepth 100000
open Go Go.Am Go.ChangeShapes Go.WideShapes Go.RowKit Go.Seat Go.Vec Go.Cdc Go.Ops

theorem reads_u8 {H : Type} {enc : TypeId × Value → H} {W : World} {base : Nat} {v : Value} {d : DataW H} {ps : List MemPlace} (hv : Value.okWide Tryd.prog W .any base 5 v) (h : DataW.Trod enc Tryd.prog W 0 (fun _ => true) true 5 v d ps) : ∃ c : UInt8, True ∧ Rep (view0 W) (u8 c) v :=
  cU8.one (by kernel_rfl) hv h (fun _ => rfl)
end Go.Proofs.YtkckmpmlbmdalaaDoor
