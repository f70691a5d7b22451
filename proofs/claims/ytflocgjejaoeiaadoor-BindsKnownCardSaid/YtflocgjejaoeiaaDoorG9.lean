import Derived.Test.YtflocgjejaoeiaaDoorG8
import Derived.Sort.Grow
import Derived.Deep.Draws
/- THE ABSTRACT MACHINE, 30: where all memory is data, what a call leaves behind is the old world grown. -/
namespace Go.Am
set_option maxRecDepth 100000
open Go
end Go.Am

/- THE ABSTRACT MACHINE, 31: functions put together of pieces; a region whose order is drawn, by a family of states. -/
namespace Go.Am
set_option maxRecDepth 100000
open Go
section
variable {P : Program} {G : Nat → Option (List AV)}

end
end Go.Am

/- THE ABSTRACT MACHINE, 32: a view put in other terms; steps that turn blocks beside the view's. -/
namespace Go.Am
set_option maxRecDepth 100000
open Go

/-- V' tells of V's first n objects what V tells; maps may be told otherwise. -/
structure Alter (n : Nat) (V V' : View) : Prop where
  data : ∀ b, b < V.w.heap.size → ¬ V.M b → V'.w.heap[b]? = V.w.heap[b]? ∧ ¬ V'.M b
  own : ∀ id, id < n → id < V.H.length → V'.ρ id = V.ρ id ∧ V'.w.heap[V.ρ id]? = V.w.heap[V.ρ id]? ∧ (V'.H[id]? = V.H[id]? ∨ ∃ e e', V.H[id]? = some (.map e) ∧ V'.H[id]? = some (.map e'))
section
variable {n : Nat} {V V' : View} (h : Alter n V V')
 include h
end

/-- A step that may turn the blocks B, too. -/
structure StepX (B : Nat → Prop) (V V' : View) : Prop where
  os : V'.w.os = V.w.os
  tape : V'.w.tape = V.w.tape
  output : V'.w.output = V.w.output
  size : V.w.heap.size ≤ V'.w.heap.size
  drawn : True
  keep : ∀ b, b < V.w.heap.size → (∀ id, id < V.H.length → V.ρ id ≠ b) → ¬ B b → V'.w.heap[b]? = V.w.heap[b]? ∧ (V'.M b ↔ V.M b)
  data : ∀ b, b < V.w.heap.size → ¬ V.M b → V'.w.heap[b]? = V.w.heap[b]? ∧ ¬ V'.M b
  hlen : V.H.length ≤ V'.H.length
  fresh : ∀ id, id < V'.H.length → (id < V.H.length ∧ V'.ρ id = V.ρ id) ∨ V.w.heap.size ≤ V'.ρ id
  obj : ∀ id, id < V.H.length → ObjStep V V' id
theorem Step.x {V V' : View} (h : Step V V') (B : Nat → Prop) : StepX B V V' := ⟨h.os, h.tape, h.output, h.size, h.drawn, fun b h1 h2 _ => h.keep b h1 h2, h.data, h.hlen, h.fresh, h.obj⟩
theorem StepX.mono {B C : Nat → Prop} {V V' : View} (h : StepX B V V') (hB : ∀ b, B b → C b) : StepX C V V' := { h with keep := fun b h1 h2 h3 => h.keep b h1 h2 fun h4 => h3 (hB b h4) }
theorem StepX.trans {B : Nat → Prop} {V V' V'' : View} (h : StepX B V V') (h' : StepX B V' V'') : StepX B V V'' where
  os := h'.os.trans h.os
  tape := h'.tape.trans h.tape
  output := h'.output.trans h.output
  size := Nat.le_trans h.size h'.size
  drawn := trivial
  keep b hb hn hB := by
    obtain ⟨a1, a2⟩ := h.keep b hb hn hB
    have := h'.keep b (Nat.lt_of_lt_of_le hb h.size) (fun id hid e => by
      rcases h.fresh id hid with ⟨hl, hρ⟩ | hge
      · exact hn id hl (hρ ▸ e)
      · omega) hB
    exact ⟨this.1.trans a1, this.2.trans a2⟩
  data b hb hn := by
    obtain ⟨a1, a2⟩ := h.data b hb hn
    obtain ⟨b1, b2⟩ := h'.data b (Nat.lt_of_lt_of_le hb h.size) a2
    exact ⟨b1.trans a1, b2⟩
  hlen := Nat.le_trans h.hlen h'.hlen
  fresh id hid := by
    rcases h'.fresh id hid with ⟨hl, hρ⟩ | hge
    · rcases h.fresh id hl with ⟨hl0, hρ0⟩ | hge
      · exact .inl ⟨hl0, hρ.trans hρ0⟩
      · exact .inr (by rw [hρ]; exact hge)
    · exact .inr (Nat.le_trans h.size hge)
  obj id hid := (h.obj id hid).trans (h'.obj id (Nat.lt_of_lt_of_le hid h.hlen))
end Go.Am

/- THE ABSTRACT MACHINE, 33: two objects made in one region, in either order. -/
namespace Go.Am
set_option maxRecDepth 100000
open Go

end Go.Am

/- THE ABSTRACT MACHINE, 34: own arrays handed down as data beside other data. -/
namespace Go.Am
set_option maxRecDepth 100000
open Go
end Go.Am

/- THE ABSTRACT MACHINE, 35: a closure whose captured box is data from then on. -/
namespace Go.Am
set_option maxRecDepth 100000
open Go
section
variable {P : Program} {G : Nat → Option (List AV)}

/-- A function that hands back a closure over one new box: the box is data. -/
theorem CallC.immFn {f : FuncId} {args : List AV} {F : Fn} {cells : List AV} (h : CallC P G f args [] (.ret (.fn F [] [.ptr 0 0])) [.box cells]) (hp : cells.all AV.pureB = true) : CallC P G f args [] (.ret (.fn F [] [.imm cells])) [] := fun V vs hH hG hr =>
  (h V vs hH hG hr).mono fun e w' he => by
    obtain ⟨V', k1, k3, k4, k2, k5⟩ := he
    have hH0 : V'.H[0]? = some (.box cells) := by rw [k2]; rfl
    have hVl : V.H.length = 0 := by rw [hH]; rfl
    have hfr : V.w.heap.size ≤ V'.ρ 0 := by
      rcases k3.fresh 0 (by rw [k2]; exact Nat.zero_lt_one) with h | h
      · have := h.1; omega
      · exact h
    let V2 : View := { w := V'.w, M := fun b => V'.M b ∧ b ≠ V'.ρ 0, H := [], ρ := V'.ρ }
    have hst : Step V V2 := {
      os := k3.os
      tape := k3.tape
      output := k3.output
      size := k3.size
      drawn := trivial
      keep := fun b hb hn => ⟨(k3.keep b hb hn).1, ⟨fun h => (k3.keep b hb hn).2.1 h.1, fun h => ⟨(k3.keep b hb hn).2.2 h, fun e => by omega⟩⟩⟩
      data := fun b hb hn => ⟨(k3.data b hb hn).1, fun h => (k3.data b hb hn).2 h.1⟩
      hlen := by rw [hVl]; exact Nat.zero_le _
      fresh := fun i hi => absurd hi (Nat.not_lt_zero _)
      obj := fun i hi => absurd hi (by omega) }
    have hG2 : HeapRep G V2 := {
      lt := fun i hi => absurd hi (Nat.not_lt_zero _)
      obj := fun i ob ho => by cases (show ([] : List AObj)[i]? = some ob from ho)
      inj := fun i j hi => absurd hi (Nat.not_lt_zero _)
      mutb := fun i ob ho => by cases (show ([] : List AObj)[i]? = some ob from ho)
      glob := hG.glob_step hst }
    refine ⟨V2, k1, hst, hG2, rfl, ?_⟩
    cases e with
    | panicked _ => exact k5.elim
    | outgrown => exact k5.elim
    | returned v =>
      have k5 : Rep V' (.fn F [] [.ptr 0 0]) v := k5
      show Rep V2 (.fn F [] [.imm cells]) v
      obtain ⟨bs, hr, hc⟩ := box_cells k4 hH0
      have himm : PRep V2.w V2.M (.imm cells) (.pointer (some ⟨V'.ρ 0, 0, none⟩)) :=
        PRep.imm cells ⟨V'.ρ 0, 0, none⟩ (fun j => bs.getD j undef) rfl (fun _ h => h.2 rfl) (fun j hj => hc j hj) fun j hj => by
          have hx := hr.2 j hj
          refine (pureB_sound ?_ hx).sameV rfl (fun b h => h.1)
          rw [List.getD_eq_getElem?_getD, List.getElem?_eq_getElem hj]
          exact List.all_eq_true.1 hp _ (List.getElem_mem _)
      have key : ∀ us ws : List Value, us.length = 0 → ws.length = 1 → Rep V' (.ptr 0 0) (ws.getD 0 undef) → Rep V2 (.fn F [] [.imm cells]) (.func F us.toArray ws.toArray) := fun us ws h1 h2 h3 => by
        have h4 : ws.getD 0 undef = .pointer (some ⟨V'.ρ 0, 0, none⟩) := by
          exact (rep_ptr h3).2
        refine .pure _ _ (.fn F [] [.imm cells] us ws h1 h2 (fun j hj => absurd hj (Nat.not_lt_zero _)) fun j hj => ?_)
        match j, hj with
        | 0, _ => rw [h4]; exact himm
      obtain ⟨us, ws, rfl, hu, hb⟩ := rep_fn k5
      exact key us ws hu.1 hb.1 (hb.2 0 Nat.zero_lt_one)
end
end Go.Am
