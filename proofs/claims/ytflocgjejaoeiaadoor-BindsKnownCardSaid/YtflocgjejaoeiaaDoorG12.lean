import Derived.Test.YtflocgjejaoeiaaDoorG11
import Derived.KernelRfl
/- BINDS, 1: comparisons. -/
namespace Go.Bd
set_option maxRecDepth 100000
set_option linter.unusedSimpArgs false
set_option linter.unusedVariables false
open Go Go.Am Go.Proofs Go.Seat

/-- A string stands before another one. -/
def ltS (a b : ByteArray) : Bool := Op.bytesLess (ByteArray.toList a) (ByteArray.toList b)
def cmpSV (a b : ByteArray) : Int := if ltS a b = true then -1 else if a = b then 0 else 1
def cmpV (x y : Int) : Int := if x < y then -1 else if x > y then 1 else 0
def thn (a b : Int) : Int := if a = 0 then b else a

theorem nanS_w (a : ByteArray) (r : Bool) (h : (!ByteArray.toList a == ByteArray.toList a) = (r)) : CallC P G 67 [str a] [] (AOut.ret (Am.bool r)) [] := by
  have e1 := h
  exact callC_out (Sub.bool_eq e1) [] (by kernel_rfl)

theorem nanI_w (a : Int) (r : Bool) (h : (a != a) = (r)) : CallC P G 68 [int a] [] (AOut.ret (Am.bool r)) [] := by
  have e1 := h
  exact callC_out (Sub.bool_eq e1) [] (by kernel_rfl)

theorem nanS_c (a : ByteArray) : CallC P G 67 [str a] [] (.ret (bool false)) [] := nanS_w a _ (by simp)
theorem nanI_c (a : Int) : CallC P G 68 [int a] [] (.ret (bool false)) [] := nanI_w a _ (by simp)

theorem cmpS_w (a b : ByteArray) (r : Int) (h : ((((Op.bytesLess (ByteArray.toList a) (ByteArray.toList b)) = true) → (-1 : Int) = (r)) ∧ (((Op.bytesLess (ByteArray.toList a) (ByteArray.toList b)) = false) → ((((Op.bytesLess (ByteArray.toList a) (ByteArray.toList b) || ByteArray.toList a == ByteArray.toList b) = true) → (0 : Int) = (r)) ∧ (((Op.bytesLess (ByteArray.toList a) (ByteArray.toList b) || ByteArray.toList a == ByteArray.toList b) = false) → (1 : Int) = (r)))))) : CallC P G 54 [str a, str b] [] (AOut.ret (int r)) [] := by
  have hz0 := (@Go.Bd.nanS_c (a))
  have hz1 := (@Go.Bd.nanS_c (b))
  rcases Bool.eq_false_or_eq_true ((Op.bytesLess (ByteArray.toList a) (ByteArray.toList b))) with c1 | c1
  · have h := h.1 c1
    have e1 := h
    exact callC_out (Sub.int_eq e1) [kc [] hz0, kc [] hz1, kf (Eq.refl false), kf (Eq.refl false), kt c1] (by kernel_rfl)
  · have h := h.2 c1
    rcases Bool.eq_false_or_eq_true ((Op.bytesLess (ByteArray.toList a) (ByteArray.toList b) || ByteArray.toList a == ByteArray.toList b)) with c2 | c2
    · have h := h.1 c2
      have e1 := h
      exact callC_out (Sub.int_eq e1) [kc [] hz0, kc [] hz1, kf (Eq.refl false), kf (Eq.refl false), kf c1, kf (show (!(Op.bytesLess (ByteArray.toList a) (ByteArray.toList b) || ByteArray.toList a == ByteArray.toList b)) = false from (congrArg Bool.not (c2)))] (by kernel_rfl)
    · have h := h.2 c2
      have e1 := h
      exact callC_out (Sub.int_eq e1) [kc [] hz0, kc [] hz1, kf (Eq.refl false), kf (Eq.refl false), kf c1, kt (show (!(Op.bytesLess (ByteArray.toList a) (ByteArray.toList b) || ByteArray.toList a == ByteArray.toList b)) = true from (congrArg Bool.not (c2)))] (by kernel_rfl)

theorem cmpI_w (a b : Int) (r : Int) (h : (((a < b) → (-1 : Int) = (r)) ∧ ((¬a < b) → (((a > b) → (1 : Int) = (r)) ∧ ((¬a > b) → (0 : Int) = (r)))))) : CallC P G 56 [int a, int b] [] (AOut.ret (int r)) [] := by
  have hz0 := (@Go.Bd.nanI_c (a))
  have hz1 := (@Go.Bd.nanI_c (b))
  by_cases c1 : (a < b)
  · have h := h.1 c1
    have e1 := h
    exact callC_out (Sub.int_eq e1) [kc [] hz0, kc [] hz1, kf (Eq.refl false), kf (Eq.refl false), kt (decide_eq_true c1)] (by kernel_rfl)
  · have h := h.2 c1
    by_cases c2 : (a > b)
    · have h := h.1 c2
      have e1 := h
      exact callC_out (Sub.int_eq e1) [kc [] hz0, kc [] hz1, kf (Eq.refl false), kf (Eq.refl false), kf (decide_eq_false c1), kt (decide_eq_true c2)] (by kernel_rfl)
    · have h := h.2 c2
      have e1 := h
      exact callC_out (Sub.int_eq e1) [kc [] hz0, kc [] hz1, kf (Eq.refl false), kf (Eq.refl false), kf (decide_eq_false c1), kf (decide_eq_false c2)] (by kernel_rfl)

theorem cmpS_c (a b : ByteArray) : CallC P G 54 [str a, str b] [] (.ret (int (cmpSV a b))) [] := cmpS_w a b _ (by
  rw [str_eq]
  unfold cmpSV ltS
  cases h : Op.bytesLess (ByteArray.toList a) (ByteArray.toList b) <;> by_cases e : a = b <;> simp [e])
theorem cmpI_c (a b : Int) : CallC P G 56 [int a, int b] [] (.ret (int (cmpV a b))) [] := cmpI_w a b _ (by unfold cmpV; grind)

theorem fldS_w (f : Nat) (h : True) : CallC P G 36 [fnF f] [] (AOut.ret (AV.fn (Fn.func 53) [] [AV.ptr 0 0])) [AObj.box [fnF f]] := by
  have _ := h
  exact callC_of [] (by kernel_rfl)

theorem fldI_w (f : Nat) (h : True) : CallC P G 38 [fnF f] [] (AOut.ret (AV.fn (Fn.func 55) [] [AV.ptr 0 0])) [AObj.box [fnF f]] := by
  have _ := h
  exact callC_of [] (by kernel_rfl)

abbrev fS (f : Nat) : AV := .fn (.func 53) [] [.imm [fnF f]]
abbrev fI (f : Nat) : AV := .fn (.func 55) [] [.imm [fnF f]]
theorem fldS_c (f : Nat) : CallC P G 36 [fnF f] [] (.ret (fS f)) [] := CallC.immFn (fldS_w f trivial) rfl
theorem fldI_c (f : Nat) : CallC P G 38 [fnF f] [] (.ret (fI f)) [] := CallC.immFn (fldI_w f trivial) rfl

theorem m1_w (a : BE) (h : True) : CallC P G 37 [bel a] [] (AOut.ret (str (BE.ky a))) [] := by
  have _ := h
  exact callC_of [] (by kernel_rfl)

theorem c1_w (a : BE) (h : True) : CallC P G 46 [bel a] [] (AOut.ret (int (BE.tm a))) [] := by
  have _ := h
  exact callC_of [] (by kernel_rfl)

theorem dev_w (a : BE) (h : True) : CallC P G 39 [bel a] [] (AOut.ret (int (BE.dv a))) [] := by
  have _ := h
  exact callC_of [] (by kernel_rfl)

theorem seq_w (a : BE) (h : True) : CallC P G 40 [bel a] [] (AOut.ret (int (BE.sq a))) [] := by
  have _ := h
  exact callC_of [] (by kernel_rfl)

theorem fS1_w (a b : BE) (h0 : ∀ a, CallC P G 37 [bel a] [] (.ret (str a.ky)) []) (h : True) : CallC P G 53 [bel a, bel b, AV.imm [fnF 37]] [] (AOut.ret (int (cmpSV (BE.ky a) (BE.ky b)))) [] := by
  have _ := h
  exact callC_of [kc [] (@h0 (a)), kc [] (@h0 (b)), kc [] (@Go.Bd.cmpS_c (BE.ky a) (BE.ky b))] (by kernel_rfl)

theorem fI1_w (a b : BE) (h0 : ∀ a, CallC P G 46 [bel a] [] (.ret (int a.tm)) []) (h : True) : CallC P G 55 [bel a, bel b, AV.imm [fnF 46]] [] (AOut.ret (int (cmpV (BE.tm a) (BE.tm b)))) [] := by
  have _ := h
  exact callC_of [kc [] (@h0 (a)), kc [] (@h0 (b)), kc [] (@Go.Bd.cmpI_c (BE.tm a) (BE.tm b))] (by kernel_rfl)

theorem fI2_w (a b : BE) (h0 : ∀ a, CallC P G 39 [bel a] [] (.ret (int a.dv)) []) (h : True) : CallC P G 55 [bel a, bel b, AV.imm [fnF 39]] [] (AOut.ret (int (cmpV (BE.dv a) (BE.dv b)))) [] := by
  have _ := h
  exact callC_of [kc [] (@h0 (a)), kc [] (@h0 (b)), kc [] (@Go.Bd.cmpI_c (BE.dv a) (BE.dv b))] (by kernel_rfl)

theorem fI3_w (a b : BE) (h0 : ∀ a, CallC P G 40 [bel a] [] (.ret (int a.sq)) []) (h : True) : CallC P G 55 [bel a, bel b, AV.imm [fnF 40]] [] (AOut.ret (int (cmpV (BE.sq a) (BE.sq b)))) [] := by
  have _ := h
  exact callC_of [kc [] (@h0 (a)), kc [] (@h0 (b)), kc [] (@Go.Bd.cmpI_c (BE.sq a) (BE.sq b))] (by kernel_rfl)

theorem fS1_c (a b : BE) : CallC P G 53 [bel a, bel b, .imm [fnF 37]] [] (.ret (int (cmpSV a.ky b.ky))) [] := fS1_w a b (fun a => m1_w a trivial) trivial
theorem fI1_c (a b : BE) : CallC P G 55 [bel a, bel b, .imm [fnF 46]] [] (.ret (int (cmpV a.tm b.tm))) [] := fI1_w a b (fun a => c1_w a trivial) trivial
theorem fI2_c (a b : BE) : CallC P G 55 [bel a, bel b, .imm [fnF 39]] [] (.ret (int (cmpV a.dv b.dv))) [] := fI2_w a b (fun a => dev_w a trivial) trivial
theorem fI3_c (a b : BE) : CallC P G 55 [bel a, bel b, .imm [fnF 40]] [] (.ret (int (cmpV a.sq b.sq))) [] := fI3_w a b (fun a => seq_w a trivial) trivial

abbrev flds (x y z : AV) : AV := .sl 1 true [[x], [y], [z]]
abbrev byF (x y z : AV) : AV := .fn (.func 52) [] [.imm [flds x y z]]

theorem by_w (x y z : AV) (h : True) : CallC P G 35 [flds x y z] [] (AOut.ret (AV.fn (Fn.func 52) [] [AV.ptr 0 0])) [AObj.box [flds x y z]] := by
  have _ := h
  exact callC_of [] (by kernel_rfl)

end Go.Bd

/- BINDS, 2: inMap, counts; Valid, less, More. -/
namespace Go.Bd
set_option maxRecDepth 100000
set_option linter.unusedSimpArgs false
set_option linter.unusedVariables false
open Go Go.Am Go.Proofs Go.Seat

abbrev xK : AV := fS 37
abbrev xD : AV := fI 39
abbrev xQ : AV := fI 40
abbrev xT : AV := fI 46
def b1S (x y z : AV) (a b : BE) (k : Nat) : St := { env := slots 23 [(0, bel a), (1, bel b), (2, .imm [flds x y z]), (3, .ptr 0 0), (4, .ptr 1 0), (5, int 0), (9, flds x y z), (10, int 3), (11, int k)], H := [.box (enc a), .box (enc b)] }
def b1E (a b : BE) (r : Int) : St := { env := slots 23 [(5, int r)], H := [.box (enc a), .box (enc b)] }
/-- The order of binds in a map. -/
def inMapV (a b : BE) : Int := thn (cmpSV a.ky b.ky) (thn (cmpV a.dv b.dv) (cmpV a.sq b.sq))
/-- How much binds count. -/
def countsV (a b : BE) : Int := thn (cmpV a.tm b.tm) (thn (cmpV a.dv b.dv) (cmpV a.sq b.sq))

theorem bm_k0 (a b : BE) (ex : AEx) (r : Int) (h : (((cmpSV (BE.ky a) (BE.ky b) = (0 : Int)) → RunL P G none 0 (loopAt P 52 0) (St.mk (slots 23 [(0, AV.agg [str (BE.ky a), int (BE.dv a), int (BE.sq a), int (BE.tm a), str (BE.vl a)]), (1, AV.agg [str (BE.ky b), int (BE.dv b), int (BE.sq b), int (BE.tm b), str (BE.vl b)]), (2, AV.imm [AV.sl 1 true [[AV.fn (Fn.func 53) [] [AV.imm [AV.lit (Value.func (Fn.func 37) (Array.mk []) (Array.mk []))]]], [AV.fn (Fn.func 55) [] [AV.imm [AV.lit (Value.func (Fn.func 39) (Array.mk []) (Array.mk []))]]], [AV.fn (Fn.func 55) [] [AV.imm [AV.lit (Value.func (Fn.func 40) (Array.mk []) (Array.mk []))]]]]]), (3, AV.ptr 0 0), (4, AV.ptr 1 0), (5, int 0), (9, AV.sl 1 true [[AV.fn (Fn.func 53) [] [AV.imm [AV.lit (Value.func (Fn.func 37) (Array.mk []) (Array.mk []))]]], [AV.fn (Fn.func 55) [] [AV.imm [AV.lit (Value.func (Fn.func 39) (Array.mk []) (Array.mk []))]]], [AV.fn (Fn.func 55) [] [AV.imm [AV.lit (Value.func (Fn.func 40) (Array.mk []) (Array.mk []))]]]]), (10, int 3), (11, int 1)]) [AObj.box [str (BE.ky a), int (BE.dv a), int (BE.sq a), int (BE.tm a), str (BE.vl a)], AObj.box [str (BE.ky b), int (BE.dv b), int (BE.sq b), int (BE.tm b), str (BE.vl b)]] []) ex (b1E a b r)) ∧ ((¬cmpSV (BE.ky a) (BE.ky b) = (0 : Int)) → (AEx.ret = ex) ∧ ((cmpSV (BE.ky a) (BE.ky b) : Int) = (r))))) : RunL P G none 0 (loopAt P 52 0) (b1S xK xD xQ a b 0) ex (b1E a b r) := by
  have hz0 : (0 : Int) ≤ (0 : Int) ∧ [[xK], [xD], [xQ]][Int.toNat (↑0 : Int)]? = some [AV.fn (Fn.func 53) [] [AV.imm [AV.lit (Value.func (Fn.func 37) (Array.mk []) (Array.mk []))]]] := (⟨by decide, rfl⟩)
  have hz1 := (@Go.Bd.fS1_c (a) (b))
  by_cases c1 : (cmpSV (BE.ky a) (BE.ky b) = (0 : Int))
  · have h := h.1 c1
    exact loop_next [kt (Eq.refl true), ko (Orc.elem [AV.fn (Fn.func 53) [] [AV.imm [AV.lit (Value.func (Fn.func 37) (Array.mk []) (Array.mk []))]]]), kp hz0, kc [] hz1, kf (show (cmpSV (BE.ky a) (BE.ky b) != 0) = false from (congrArg Bool.not (beq_iff_eq.2 c1)))] (others 23 [0, 1, 2, 3, 4, 5, 9, 10, 11]) 2 h (by kernel_rfl)
  · have h := h.2 c1
    obtain ⟨eX, e1⟩ := h
    exact RunL.to ((show RunL P G none 0 (loopAt P 52 0) (b1S xK xD xQ a b 0) AEx.ret (St.mk (slots 23 [(5, int (cmpSV (BE.ky a) (BE.ky b)))]) [AObj.box [str (BE.ky a), int (BE.dv a), int (BE.sq a), int (BE.tm a), str (BE.vl a)], AObj.box [str (BE.ky b), int (BE.dv b), int (BE.sq b), int (BE.tm b), str (BE.vl b)]] []) from loop_exit [kt (Eq.refl true), ko (Orc.elem [AV.fn (Fn.func 53) [] [AV.imm [AV.lit (Value.func (Fn.func 37) (Array.mk []) (Array.mk []))]]]), kp hz0, kc [] hz1, kt (show (cmpSV (BE.ky a) (BE.ky b) != 0) = true from (congrArg Bool.not (beq_eq_false_iff_ne.2 c1)))] (others 23 [5]) 2 (by kernel_rfl))) eX (SubS.slots ⟨rfl, (Sub.int_eq e1), trivial⟩)

theorem bm_k1 (a b : BE) (ex : AEx) (r : Int) (h : (((cmpV (BE.dv a) (BE.dv b) = (0 : Int)) → RunL P G none 0 (loopAt P 52 0) (St.mk (slots 23 [(0, AV.agg [str (BE.ky a), int (BE.dv a), int (BE.sq a), int (BE.tm a), str (BE.vl a)]), (1, AV.agg [str (BE.ky b), int (BE.dv b), int (BE.sq b), int (BE.tm b), str (BE.vl b)]), (2, AV.imm [AV.sl 1 true [[AV.fn (Fn.func 53) [] [AV.imm [AV.lit (Value.func (Fn.func 37) (Array.mk []) (Array.mk []))]]], [AV.fn (Fn.func 55) [] [AV.imm [AV.lit (Value.func (Fn.func 39) (Array.mk []) (Array.mk []))]]], [AV.fn (Fn.func 55) [] [AV.imm [AV.lit (Value.func (Fn.func 40) (Array.mk []) (Array.mk []))]]]]]), (3, AV.ptr 0 0), (4, AV.ptr 1 0), (5, int 0), (9, AV.sl 1 true [[AV.fn (Fn.func 53) [] [AV.imm [AV.lit (Value.func (Fn.func 37) (Array.mk []) (Array.mk []))]]], [AV.fn (Fn.func 55) [] [AV.imm [AV.lit (Value.func (Fn.func 39) (Array.mk []) (Array.mk []))]]], [AV.fn (Fn.func 55) [] [AV.imm [AV.lit (Value.func (Fn.func 40) (Array.mk []) (Array.mk []))]]]]), (10, int 3), (11, int 2)]) [AObj.box [str (BE.ky a), int (BE.dv a), int (BE.sq a), int (BE.tm a), str (BE.vl a)], AObj.box [str (BE.ky b), int (BE.dv b), int (BE.sq b), int (BE.tm b), str (BE.vl b)]] []) ex (b1E a b r)) ∧ ((¬cmpV (BE.dv a) (BE.dv b) = (0 : Int)) → (AEx.ret = ex) ∧ ((cmpV (BE.dv a) (BE.dv b) : Int) = (r))))) : RunL P G none 0 (loopAt P 52 0) (b1S xK xD xQ a b 1) ex (b1E a b r) := by
  have hz0 : (0 : Int) ≤ (1 : Int) ∧ [[xK], [xD], [xQ]][Int.toNat (↑1 : Int)]? = some [AV.fn (Fn.func 55) [] [AV.imm [AV.lit (Value.func (Fn.func 39) (Array.mk []) (Array.mk []))]]] := (⟨by decide, rfl⟩)
  have hz1 := (@Go.Bd.fI2_c (a) (b))
  by_cases c1 : (cmpV (BE.dv a) (BE.dv b) = (0 : Int))
  · have h := h.1 c1
    exact loop_next [kt (Eq.refl true), ko (Orc.elem [AV.fn (Fn.func 55) [] [AV.imm [AV.lit (Value.func (Fn.func 39) (Array.mk []) (Array.mk []))]]]), kp hz0, kc [] hz1, kf (show (cmpV (BE.dv a) (BE.dv b) != 0) = false from (congrArg Bool.not (beq_iff_eq.2 c1)))] (others 23 [0, 1, 2, 3, 4, 5, 9, 10, 11]) 2 h (by kernel_rfl)
  · have h := h.2 c1
    obtain ⟨eX, e1⟩ := h
    exact RunL.to ((show RunL P G none 0 (loopAt P 52 0) (b1S xK xD xQ a b 1) AEx.ret (St.mk (slots 23 [(5, int (cmpV (BE.dv a) (BE.dv b)))]) [AObj.box [str (BE.ky a), int (BE.dv a), int (BE.sq a), int (BE.tm a), str (BE.vl a)], AObj.box [str (BE.ky b), int (BE.dv b), int (BE.sq b), int (BE.tm b), str (BE.vl b)]] []) from loop_exit [kt (Eq.refl true), ko (Orc.elem [AV.fn (Fn.func 55) [] [AV.imm [AV.lit (Value.func (Fn.func 39) (Array.mk []) (Array.mk []))]]]), kp hz0, kc [] hz1, kt (show (cmpV (BE.dv a) (BE.dv b) != 0) = true from (congrArg Bool.not (beq_eq_false_iff_ne.2 c1)))] (others 23 [5]) 2 (by kernel_rfl))) eX (SubS.slots ⟨rfl, (Sub.int_eq e1), trivial⟩)

theorem bm_k2 (a b : BE) (ex : AEx) (r : Int) (h : (((cmpV (BE.sq a) (BE.sq b) = (0 : Int)) → RunL P G none 0 (loopAt P 52 0) (St.mk (slots 23 [(0, AV.agg [str (BE.ky a), int (BE.dv a), int (BE.sq a), int (BE.tm a), str (BE.vl a)]), (1, AV.agg [str (BE.ky b), int (BE.dv b), int (BE.sq b), int (BE.tm b), str (BE.vl b)]), (2, AV.imm [AV.sl 1 true [[AV.fn (Fn.func 53) [] [AV.imm [AV.lit (Value.func (Fn.func 37) (Array.mk []) (Array.mk []))]]], [AV.fn (Fn.func 55) [] [AV.imm [AV.lit (Value.func (Fn.func 39) (Array.mk []) (Array.mk []))]]], [AV.fn (Fn.func 55) [] [AV.imm [AV.lit (Value.func (Fn.func 40) (Array.mk []) (Array.mk []))]]]]]), (3, AV.ptr 0 0), (4, AV.ptr 1 0), (5, int 0), (9, AV.sl 1 true [[AV.fn (Fn.func 53) [] [AV.imm [AV.lit (Value.func (Fn.func 37) (Array.mk []) (Array.mk []))]]], [AV.fn (Fn.func 55) [] [AV.imm [AV.lit (Value.func (Fn.func 39) (Array.mk []) (Array.mk []))]]], [AV.fn (Fn.func 55) [] [AV.imm [AV.lit (Value.func (Fn.func 40) (Array.mk []) (Array.mk []))]]]]), (10, int 3), (11, int 3)]) [AObj.box [str (BE.ky a), int (BE.dv a), int (BE.sq a), int (BE.tm a), str (BE.vl a)], AObj.box [str (BE.ky b), int (BE.dv b), int (BE.sq b), int (BE.tm b), str (BE.vl b)]] []) ex (b1E a b r)) ∧ ((¬cmpV (BE.sq a) (BE.sq b) = (0 : Int)) → (AEx.ret = ex) ∧ ((cmpV (BE.sq a) (BE.sq b) : Int) = (r))))) : RunL P G none 0 (loopAt P 52 0) (b1S xK xD xQ a b 2) ex (b1E a b r) := by
  have hz0 : (0 : Int) ≤ (2 : Int) ∧ [[xK], [xD], [xQ]][Int.toNat (↑2 : Int)]? = some [AV.fn (Fn.func 55) [] [AV.imm [AV.lit (Value.func (Fn.func 40) (Array.mk []) (Array.mk []))]]] := (⟨by decide, rfl⟩)
  have hz1 := (@Go.Bd.fI3_c (a) (b))
  by_cases c1 : (cmpV (BE.sq a) (BE.sq b) = (0 : Int))
  · have h := h.1 c1
    exact loop_next [kt (Eq.refl true), ko (Orc.elem [AV.fn (Fn.func 55) [] [AV.imm [AV.lit (Value.func (Fn.func 40) (Array.mk []) (Array.mk []))]]]), kp hz0, kc [] hz1, kf (show (cmpV (BE.sq a) (BE.sq b) != 0) = false from (congrArg Bool.not (beq_iff_eq.2 c1)))] (others 23 [0, 1, 2, 3, 4, 5, 9, 10, 11]) 2 h (by kernel_rfl)
  · have h := h.2 c1
    obtain ⟨eX, e1⟩ := h
    exact RunL.to ((show RunL P G none 0 (loopAt P 52 0) (b1S xK xD xQ a b 2) AEx.ret (St.mk (slots 23 [(5, int (cmpV (BE.sq a) (BE.sq b)))]) [AObj.box [str (BE.ky a), int (BE.dv a), int (BE.sq a), int (BE.tm a), str (BE.vl a)], AObj.box [str (BE.ky b), int (BE.dv b), int (BE.sq b), int (BE.tm b), str (BE.vl b)]] []) from loop_exit [kt (Eq.refl true), ko (Orc.elem [AV.fn (Fn.func 55) [] [AV.imm [AV.lit (Value.func (Fn.func 40) (Array.mk []) (Array.mk []))]]]), kp hz0, kc [] hz1, kt (show (cmpV (BE.sq a) (BE.sq b) != 0) = true from (congrArg Bool.not (beq_eq_false_iff_ne.2 c1)))] (others 23 [5]) 2 (by kernel_rfl))) eX (SubS.slots ⟨rfl, (Sub.int_eq e1), trivial⟩)

theorem bm_k3 (a b : BE) (ex : AEx) (r : Int) (h : (AEx.exit 0 = ex) ∧ ((0 : Int) = (r))) : RunL P G none 0 (loopAt P 52 0) (b1S xK xD xQ a b 3) ex (b1E a b r) := by
  obtain ⟨eX, e1⟩ := h
  exact RunL.to ((show RunL P G none 0 (loopAt P 52 0) (b1S xK xD xQ a b 3) (AEx.exit 0) (St.mk (slots 23 [(5, int 0)]) [AObj.box [str (BE.ky a), int (BE.dv a), int (BE.sq a), int (BE.tm a), str (BE.vl a)], AObj.box [str (BE.ky b), int (BE.dv b), int (BE.sq b), int (BE.tm b), str (BE.vl b)]] []) from loop_exit [kf (Eq.refl false)] (others 23 [5]) 2 (by kernel_rfl))) eX (SubS.slots ⟨rfl, (Sub.int_eq e1), trivial⟩)

theorem bc_k0 (a b : BE) (ex : AEx) (r : Int) (h : (((cmpV (BE.tm a) (BE.tm b) = (0 : Int)) → RunL P G none 0 (loopAt P 52 0) (St.mk (slots 23 [(0, AV.agg [str (BE.ky a), int (BE.dv a), int (BE.sq a), int (BE.tm a), str (BE.vl a)]), (1, AV.agg [str (BE.ky b), int (BE.dv b), int (BE.sq b), int (BE.tm b), str (BE.vl b)]), (2, AV.imm [AV.sl 1 true [[AV.fn (Fn.func 55) [] [AV.imm [AV.lit (Value.func (Fn.func 46) (Array.mk []) (Array.mk []))]]], [AV.fn (Fn.func 55) [] [AV.imm [AV.lit (Value.func (Fn.func 39) (Array.mk []) (Array.mk []))]]], [AV.fn (Fn.func 55) [] [AV.imm [AV.lit (Value.func (Fn.func 40) (Array.mk []) (Array.mk []))]]]]]), (3, AV.ptr 0 0), (4, AV.ptr 1 0), (5, int 0), (9, AV.sl 1 true [[AV.fn (Fn.func 55) [] [AV.imm [AV.lit (Value.func (Fn.func 46) (Array.mk []) (Array.mk []))]]], [AV.fn (Fn.func 55) [] [AV.imm [AV.lit (Value.func (Fn.func 39) (Array.mk []) (Array.mk []))]]], [AV.fn (Fn.func 55) [] [AV.imm [AV.lit (Value.func (Fn.func 40) (Array.mk []) (Array.mk []))]]]]), (10, int 3), (11, int 1)]) [AObj.box [str (BE.ky a), int (BE.dv a), int (BE.sq a), int (BE.tm a), str (BE.vl a)], AObj.box [str (BE.ky b), int (BE.dv b), int (BE.sq b), int (BE.tm b), str (BE.vl b)]] []) ex (b1E a b r)) ∧ ((¬cmpV (BE.tm a) (BE.tm b) = (0 : Int)) → (AEx.ret = ex) ∧ ((cmpV (BE.tm a) (BE.tm b) : Int) = (r))))) : RunL P G none 0 (loopAt P 52 0) (b1S xT xD xQ a b 0) ex (b1E a b r) := by
  have hz0 : (0 : Int) ≤ (0 : Int) ∧ [[xT], [xD], [xQ]][Int.toNat (↑0 : Int)]? = some [AV.fn (Fn.func 55) [] [AV.imm [AV.lit (Value.func (Fn.func 46) (Array.mk []) (Array.mk []))]]] := (⟨by decide, rfl⟩)
  have hz1 := (@Go.Bd.fI1_c (a) (b))
  by_cases c1 : (cmpV (BE.tm a) (BE.tm b) = (0 : Int))
  · have h := h.1 c1
    exact loop_next [kt (Eq.refl true), ko (Orc.elem [AV.fn (Fn.func 55) [] [AV.imm [AV.lit (Value.func (Fn.func 46) (Array.mk []) (Array.mk []))]]]), kp hz0, kc [] hz1, kf (show (cmpV (BE.tm a) (BE.tm b) != 0) = false from (congrArg Bool.not (beq_iff_eq.2 c1)))] (others 23 [0, 1, 2, 3, 4, 5, 9, 10, 11]) 2 h (by kernel_rfl)
  · have h := h.2 c1
    obtain ⟨eX, e1⟩ := h
    exact RunL.to ((show RunL P G none 0 (loopAt P 52 0) (b1S xT xD xQ a b 0) AEx.ret (St.mk (slots 23 [(5, int (cmpV (BE.tm a) (BE.tm b)))]) [AObj.box [str (BE.ky a), int (BE.dv a), int (BE.sq a), int (BE.tm a), str (BE.vl a)], AObj.box [str (BE.ky b), int (BE.dv b), int (BE.sq b), int (BE.tm b), str (BE.vl b)]] []) from loop_exit [kt (Eq.refl true), ko (Orc.elem [AV.fn (Fn.func 55) [] [AV.imm [AV.lit (Value.func (Fn.func 46) (Array.mk []) (Array.mk []))]]]), kp hz0, kc [] hz1, kt (show (cmpV (BE.tm a) (BE.tm b) != 0) = true from (congrArg Bool.not (beq_eq_false_iff_ne.2 c1)))] (others 23 [5]) 2 (by kernel_rfl))) eX (SubS.slots ⟨rfl, (Sub.int_eq e1), trivial⟩)

theorem bc_k1 (a b : BE) (ex : AEx) (r : Int) (h : (((cmpV (BE.dv a) (BE.dv b) = (0 : Int)) → RunL P G none 0 (loopAt P 52 0) (St.mk (slots 23 [(0, AV.agg [str (BE.ky a), int (BE.dv a), int (BE.sq a), int (BE.tm a), str (BE.vl a)]), (1, AV.agg [str (BE.ky b), int (BE.dv b), int (BE.sq b), int (BE.tm b), str (BE.vl b)]), (2, AV.imm [AV.sl 1 true [[AV.fn (Fn.func 55) [] [AV.imm [AV.lit (Value.func (Fn.func 46) (Array.mk []) (Array.mk []))]]], [AV.fn (Fn.func 55) [] [AV.imm [AV.lit (Value.func (Fn.func 39) (Array.mk []) (Array.mk []))]]], [AV.fn (Fn.func 55) [] [AV.imm [AV.lit (Value.func (Fn.func 40) (Array.mk []) (Array.mk []))]]]]]), (3, AV.ptr 0 0), (4, AV.ptr 1 0), (5, int 0), (9, AV.sl 1 true [[AV.fn (Fn.func 55) [] [AV.imm [AV.lit (Value.func (Fn.func 46) (Array.mk []) (Array.mk []))]]], [AV.fn (Fn.func 55) [] [AV.imm [AV.lit (Value.func (Fn.func 39) (Array.mk []) (Array.mk []))]]], [AV.fn (Fn.func 55) [] [AV.imm [AV.lit (Value.func (Fn.func 40) (Array.mk []) (Array.mk []))]]]]), (10, int 3), (11, int 2)]) [AObj.box [str (BE.ky a), int (BE.dv a), int (BE.sq a), int (BE.tm a), str (BE.vl a)], AObj.box [str (BE.ky b), int (BE.dv b), int (BE.sq b), int (BE.tm b), str (BE.vl b)]] []) ex (b1E a b r)) ∧ ((¬cmpV (BE.dv a) (BE.dv b) = (0 : Int)) → (AEx.ret = ex) ∧ ((cmpV (BE.dv a) (BE.dv b) : Int) = (r))))) : RunL P G none 0 (loopAt P 52 0) (b1S xT xD xQ a b 1) ex (b1E a b r) := by
  have hz0 : (0 : Int) ≤ (1 : Int) ∧ [[xT], [xD], [xQ]][Int.toNat (↑1 : Int)]? = some [AV.fn (Fn.func 55) [] [AV.imm [AV.lit (Value.func (Fn.func 39) (Array.mk []) (Array.mk []))]]] := (⟨by decide, rfl⟩)
  have hz1 := (@Go.Bd.fI2_c (a) (b))
  by_cases c1 : (cmpV (BE.dv a) (BE.dv b) = (0 : Int))
  · have h := h.1 c1
    exact loop_next [kt (Eq.refl true), ko (Orc.elem [AV.fn (Fn.func 55) [] [AV.imm [AV.lit (Value.func (Fn.func 39) (Array.mk []) (Array.mk []))]]]), kp hz0, kc [] hz1, kf (show (cmpV (BE.dv a) (BE.dv b) != 0) = false from (congrArg Bool.not (beq_iff_eq.2 c1)))] (others 23 [0, 1, 2, 3, 4, 5, 9, 10, 11]) 2 h (by kernel_rfl)
  · have h := h.2 c1
    obtain ⟨eX, e1⟩ := h
    exact RunL.to ((show RunL P G none 0 (loopAt P 52 0) (b1S xT xD xQ a b 1) AEx.ret (St.mk (slots 23 [(5, int (cmpV (BE.dv a) (BE.dv b)))]) [AObj.box [str (BE.ky a), int (BE.dv a), int (BE.sq a), int (BE.tm a), str (BE.vl a)], AObj.box [str (BE.ky b), int (BE.dv b), int (BE.sq b), int (BE.tm b), str (BE.vl b)]] []) from loop_exit [kt (Eq.refl true), ko (Orc.elem [AV.fn (Fn.func 55) [] [AV.imm [AV.lit (Value.func (Fn.func 39) (Array.mk []) (Array.mk []))]]]), kp hz0, kc [] hz1, kt (show (cmpV (BE.dv a) (BE.dv b) != 0) = true from (congrArg Bool.not (beq_eq_false_iff_ne.2 c1)))] (others 23 [5]) 2 (by kernel_rfl))) eX (SubS.slots ⟨rfl, (Sub.int_eq e1), trivial⟩)

theorem bc_k2 (a b : BE) (ex : AEx) (r : Int) (h : (((cmpV (BE.sq a) (BE.sq b) = (0 : Int)) → RunL P G none 0 (loopAt P 52 0) (St.mk (slots 23 [(0, AV.agg [str (BE.ky a), int (BE.dv a), int (BE.sq a), int (BE.tm a), str (BE.vl a)]), (1, AV.agg [str (BE.ky b), int (BE.dv b), int (BE.sq b), int (BE.tm b), str (BE.vl b)]), (2, AV.imm [AV.sl 1 true [[AV.fn (Fn.func 55) [] [AV.imm [AV.lit (Value.func (Fn.func 46) (Array.mk []) (Array.mk []))]]], [AV.fn (Fn.func 55) [] [AV.imm [AV.lit (Value.func (Fn.func 39) (Array.mk []) (Array.mk []))]]], [AV.fn (Fn.func 55) [] [AV.imm [AV.lit (Value.func (Fn.func 40) (Array.mk []) (Array.mk []))]]]]]), (3, AV.ptr 0 0), (4, AV.ptr 1 0), (5, int 0), (9, AV.sl 1 true [[AV.fn (Fn.func 55) [] [AV.imm [AV.lit (Value.func (Fn.func 46) (Array.mk []) (Array.mk []))]]], [AV.fn (Fn.func 55) [] [AV.imm [AV.lit (Value.func (Fn.func 39) (Array.mk []) (Array.mk []))]]], [AV.fn (Fn.func 55) [] [AV.imm [AV.lit (Value.func (Fn.func 40) (Array.mk []) (Array.mk []))]]]]), (10, int 3), (11, int 3)]) [AObj.box [str (BE.ky a), int (BE.dv a), int (BE.sq a), int (BE.tm a), str (BE.vl a)], AObj.box [str (BE.ky b), int (BE.dv b), int (BE.sq b), int (BE.tm b), str (BE.vl b)]] []) ex (b1E a b r)) ∧ ((¬cmpV (BE.sq a) (BE.sq b) = (0 : Int)) → (AEx.ret = ex) ∧ ((cmpV (BE.sq a) (BE.sq b) : Int) = (r))))) : RunL P G none 0 (loopAt P 52 0) (b1S xT xD xQ a b 2) ex (b1E a b r) := by
  have hz0 : (0 : Int) ≤ (2 : Int) ∧ [[xT], [xD], [xQ]][Int.toNat (↑2 : Int)]? = some [AV.fn (Fn.func 55) [] [AV.imm [AV.lit (Value.func (Fn.func 40) (Array.mk []) (Array.mk []))]]] := (⟨by decide, rfl⟩)
  have hz1 := (@Go.Bd.fI3_c (a) (b))
  by_cases c1 : (cmpV (BE.sq a) (BE.sq b) = (0 : Int))
  · have h := h.1 c1
    exact loop_next [kt (Eq.refl true), ko (Orc.elem [AV.fn (Fn.func 55) [] [AV.imm [AV.lit (Value.func (Fn.func 40) (Array.mk []) (Array.mk []))]]]), kp hz0, kc [] hz1, kf (show (cmpV (BE.sq a) (BE.sq b) != 0) = false from (congrArg Bool.not (beq_iff_eq.2 c1)))] (others 23 [0, 1, 2, 3, 4, 5, 9, 10, 11]) 2 h (by kernel_rfl)
  · have h := h.2 c1
    obtain ⟨eX, e1⟩ := h
    exact RunL.to ((show RunL P G none 0 (loopAt P 52 0) (b1S xT xD xQ a b 2) AEx.ret (St.mk (slots 23 [(5, int (cmpV (BE.sq a) (BE.sq b)))]) [AObj.box [str (BE.ky a), int (BE.dv a), int (BE.sq a), int (BE.tm a), str (BE.vl a)], AObj.box [str (BE.ky b), int (BE.dv b), int (BE.sq b), int (BE.tm b), str (BE.vl b)]] []) from loop_exit [kt (Eq.refl true), ko (Orc.elem [AV.fn (Fn.func 55) [] [AV.imm [AV.lit (Value.func (Fn.func 40) (Array.mk []) (Array.mk []))]]]), kp hz0, kc [] hz1, kt (show (cmpV (BE.sq a) (BE.sq b) != 0) = true from (congrArg Bool.not (beq_eq_false_iff_ne.2 c1)))] (others 23 [5]) 2 (by kernel_rfl))) eX (SubS.slots ⟨rfl, (Sub.int_eq e1), trivial⟩)

theorem bc_k3 (a b : BE) (ex : AEx) (r : Int) (h : (AEx.exit 0 = ex) ∧ ((0 : Int) = (r))) : RunL P G none 0 (loopAt P 52 0) (b1S xT xD xQ a b 3) ex (b1E a b r) := by
  obtain ⟨eX, e1⟩ := h
  exact RunL.to ((show RunL P G none 0 (loopAt P 52 0) (b1S xT xD xQ a b 3) (AEx.exit 0) (St.mk (slots 23 [(5, int 0)]) [AObj.box [str (BE.ky a), int (BE.dv a), int (BE.sq a), int (BE.tm a), str (BE.vl a)], AObj.box [str (BE.ky b), int (BE.dv b), int (BE.sq b), int (BE.tm b), str (BE.vl b)]] []) from loop_exit [kf (Eq.refl false)] (others 23 [5]) 2 (by kernel_rfl))) eX (SubS.slots ⟨rfl, (Sub.int_eq e1), trivial⟩)

theorem bm_run (a b : BE) : RunL P G none 0 (loopAt P 52 0) (b1S xK xD xQ a b 0) (if inMapV a b = 0 then .exit 0 else .ret) (b1E a b (inMapV a b)) := by
  unfold inMapV thn
  by_cases h1 : cmpSV a.ky b.ky = 0
  · rw [if_pos h1]
    refine bm_k0 a b _ _ ⟨fun _ => ?_, fun h => absurd h1 h⟩
    by_cases h2 : cmpV a.dv b.dv = 0
    · rw [if_pos h2]
      refine bm_k1 a b _ _ ⟨fun _ => ?_, fun h => absurd h2 h⟩
      by_cases h3 : cmpV a.sq b.sq = 0
      · refine bm_k2 a b _ _ ⟨fun _ => ?_, fun h => absurd h3 h⟩
        rw [if_pos h3, h3]
        exact bm_k3 a b _ _ ⟨rfl, rfl⟩
      · rw [if_neg h3]
        exact bm_k2 a b _ _ ⟨fun h => absurd h h3, fun _ => ⟨rfl, rfl⟩⟩
    · rw [if_neg h2, if_neg h2]
      exact bm_k1 a b _ _ ⟨fun h => absurd h h2, fun _ => ⟨rfl, rfl⟩⟩
  · rw [if_neg h1, if_neg h1]
    exact bm_k0 a b _ _ ⟨fun h => absurd h h1, fun _ => ⟨rfl, rfl⟩⟩

theorem bym_w (a b : BE) (r : Int) (h : (((inMapV a b = (0 : Int)) → (0 : Int) = (r)) ∧ ((¬inMapV a b = (0 : Int)) → (inMapV a b : Int) = (r)))) : CallC P G 52 [bel a, bel b, AV.imm [flds xK xD xQ]] [] (AOut.ret (int r)) [] := by
  by_cases c1 : (inMapV a b = (0 : Int))
  · have h := h.1 c1
    have e1 := h
    exact callC_out (Sub.int_eq e1) [kl [6, 7, 8, 12, 13, 14, 15, 16, 17, 18, 19, 20, 21, 22] 2 (show RunL P G none 0 (loopAt P 52 0) (St.mk (slots 23 [(0, AV.agg [str (BE.ky a), int (BE.dv a), int (BE.sq a), int (BE.tm a), str (BE.vl a)]), (1, AV.agg [str (BE.ky b), int (BE.dv b), int (BE.sq b), int (BE.tm b), str (BE.vl b)]), (2, AV.imm [AV.sl 1 true [[AV.fn (Fn.func 53) [] [AV.imm [AV.lit (Value.func (Fn.func 37) (Array.mk []) (Array.mk []))]]], [AV.fn (Fn.func 55) [] [AV.imm [AV.lit (Value.func (Fn.func 39) (Array.mk []) (Array.mk []))]]], [AV.fn (Fn.func 55) [] [AV.imm [AV.lit (Value.func (Fn.func 40) (Array.mk []) (Array.mk []))]]]]]), (3, AV.ptr 0 0), (4, AV.ptr 1 0), (5, int 0), (9, AV.sl 1 true [[AV.fn (Fn.func 53) [] [AV.imm [AV.lit (Value.func (Fn.func 37) (Array.mk []) (Array.mk []))]]], [AV.fn (Fn.func 55) [] [AV.imm [AV.lit (Value.func (Fn.func 39) (Array.mk []) (Array.mk []))]]], [AV.fn (Fn.func 55) [] [AV.imm [AV.lit (Value.func (Fn.func 40) (Array.mk []) (Array.mk []))]]]]), (10, int 3), (11, int 0)]) [AObj.box [str (BE.ky a), int (BE.dv a), int (BE.sq a), int (BE.tm a), str (BE.vl a)], AObj.box [str (BE.ky b), int (BE.dv b), int (BE.sq b), int (BE.tm b), str (BE.vl b)]] []) (AEx.exit 0) (St.mk (slots 23 [(5, int (inMapV a b))]) [AObj.box [str (BE.ky a), int (BE.dv a), int (BE.sq a), int (BE.tm a), str (BE.vl a)], AObj.box [str (BE.ky b), int (BE.dv b), int (BE.sq b), int (BE.tm b), str (BE.vl b)]] []) from (by have h0 := (@Go.Bd.bm_run (a) (b)); simp only [if_pos c1] at h0; exact h0))] (by kernel_rfl)
  · have h := h.2 c1
    have e1 := h
    exact callC_out (Sub.int_eq e1) [kl [6, 7, 8, 12, 13, 14, 15, 16, 17, 18, 19, 20, 21, 22] 2 (show RunL P G none 0 (loopAt P 52 0) (St.mk (slots 23 [(0, AV.agg [str (BE.ky a), int (BE.dv a), int (BE.sq a), int (BE.tm a), str (BE.vl a)]), (1, AV.agg [str (BE.ky b), int (BE.dv b), int (BE.sq b), int (BE.tm b), str (BE.vl b)]), (2, AV.imm [AV.sl 1 true [[AV.fn (Fn.func 53) [] [AV.imm [AV.lit (Value.func (Fn.func 37) (Array.mk []) (Array.mk []))]]], [AV.fn (Fn.func 55) [] [AV.imm [AV.lit (Value.func (Fn.func 39) (Array.mk []) (Array.mk []))]]], [AV.fn (Fn.func 55) [] [AV.imm [AV.lit (Value.func (Fn.func 40) (Array.mk []) (Array.mk []))]]]]]), (3, AV.ptr 0 0), (4, AV.ptr 1 0), (5, int 0), (9, AV.sl 1 true [[AV.fn (Fn.func 53) [] [AV.imm [AV.lit (Value.func (Fn.func 37) (Array.mk []) (Array.mk []))]]], [AV.fn (Fn.func 55) [] [AV.imm [AV.lit (Value.func (Fn.func 39) (Array.mk []) (Array.mk []))]]], [AV.fn (Fn.func 55) [] [AV.imm [AV.lit (Value.func (Fn.func 40) (Array.mk []) (Array.mk []))]]]]), (10, int 3), (11, int 0)]) [AObj.box [str (BE.ky a), int (BE.dv a), int (BE.sq a), int (BE.tm a), str (BE.vl a)], AObj.box [str (BE.ky b), int (BE.dv b), int (BE.sq b), int (BE.tm b), str (BE.vl b)]] []) AEx.ret (St.mk (slots 23 [(5, int (inMapV a b))]) [AObj.box [str (BE.ky a), int (BE.dv a), int (BE.sq a), int (BE.tm a), str (BE.vl a)], AObj.box [str (BE.ky b), int (BE.dv b), int (BE.sq b), int (BE.tm b), str (BE.vl b)]] []) from (by have h0 := (@Go.Bd.bm_run (a) (b)); simp only [if_neg c1] at h0; exact h0))] (by kernel_rfl)

theorem bym_c (a b : BE) : CallC P G 52 [bel a, bel b, .imm [flds xK xD xQ]] [] (.ret (int (inMapV a b))) [] := bym_w a b _ (by
  by_cases h : inMapV a b = 0
  · simp [h]
  · simp [h])
theorem byFm_c : CallC P G 35 [flds xK xD xQ] [] (.ret (byF xK xD xQ)) [] := CallC.immFn (by_w xK xD xQ trivial) rfl
theorem bc_run (a b : BE) : RunL P G none 0 (loopAt P 52 0) (b1S xT xD xQ a b 0) (if countsV a b = 0 then .exit 0 else .ret) (b1E a b (countsV a b)) := by
  unfold countsV thn
  by_cases h1 : cmpV a.tm b.tm = 0
  · rw [if_pos h1]
    refine bc_k0 a b _ _ ⟨fun _ => ?_, fun h => absurd h1 h⟩
    by_cases h2 : cmpV a.dv b.dv = 0
    · rw [if_pos h2]
      refine bc_k1 a b _ _ ⟨fun _ => ?_, fun h => absurd h2 h⟩
      by_cases h3 : cmpV a.sq b.sq = 0
      · refine bc_k2 a b _ _ ⟨fun _ => ?_, fun h => absurd h3 h⟩
        rw [if_pos h3, h3]
        exact bc_k3 a b _ _ ⟨rfl, rfl⟩
      · rw [if_neg h3]
        exact bc_k2 a b _ _ ⟨fun h => absurd h h3, fun _ => ⟨rfl, rfl⟩⟩
    · rw [if_neg h2, if_neg h2]
      exact bc_k1 a b _ _ ⟨fun h => absurd h h2, fun _ => ⟨rfl, rfl⟩⟩
  · rw [if_neg h1, if_neg h1]
    exact bc_k0 a b _ _ ⟨fun h => absurd h h1, fun _ => ⟨rfl, rfl⟩⟩

theorem byc_w (a b : BE) (r : Int) (h : (((countsV a b = (0 : Int)) → (0 : Int) = (r)) ∧ ((¬countsV a b = (0 : Int)) → (countsV a b : Int) = (r)))) : CallC P G 52 [bel a, bel b, AV.imm [flds xT xD xQ]] [] (AOut.ret (int r)) [] := by
  by_cases c1 : (countsV a b = (0 : Int))
  · have h := h.1 c1
    have e1 := h
    exact callC_out (Sub.int_eq e1) [kl [6, 7, 8, 12, 13, 14, 15, 16, 17, 18, 19, 20, 21, 22] 2 (show RunL P G none 0 (loopAt P 52 0) (St.mk (slots 23 [(0, AV.agg [str (BE.ky a), int (BE.dv a), int (BE.sq a), int (BE.tm a), str (BE.vl a)]), (1, AV.agg [str (BE.ky b), int (BE.dv b), int (BE.sq b), int (BE.tm b), str (BE.vl b)]), (2, AV.imm [AV.sl 1 true [[AV.fn (Fn.func 55) [] [AV.imm [AV.lit (Value.func (Fn.func 46) (Array.mk []) (Array.mk []))]]], [AV.fn (Fn.func 55) [] [AV.imm [AV.lit (Value.func (Fn.func 39) (Array.mk []) (Array.mk []))]]], [AV.fn (Fn.func 55) [] [AV.imm [AV.lit (Value.func (Fn.func 40) (Array.mk []) (Array.mk []))]]]]]), (3, AV.ptr 0 0), (4, AV.ptr 1 0), (5, int 0), (9, AV.sl 1 true [[AV.fn (Fn.func 55) [] [AV.imm [AV.lit (Value.func (Fn.func 46) (Array.mk []) (Array.mk []))]]], [AV.fn (Fn.func 55) [] [AV.imm [AV.lit (Value.func (Fn.func 39) (Array.mk []) (Array.mk []))]]], [AV.fn (Fn.func 55) [] [AV.imm [AV.lit (Value.func (Fn.func 40) (Array.mk []) (Array.mk []))]]]]), (10, int 3), (11, int 0)]) [AObj.box [str (BE.ky a), int (BE.dv a), int (BE.sq a), int (BE.tm a), str (BE.vl a)], AObj.box [str (BE.ky b), int (BE.dv b), int (BE.sq b), int (BE.tm b), str (BE.vl b)]] []) (AEx.exit 0) (St.mk (slots 23 [(5, int (countsV a b))]) [AObj.box [str (BE.ky a), int (BE.dv a), int (BE.sq a), int (BE.tm a), str (BE.vl a)], AObj.box [str (BE.ky b), int (BE.dv b), int (BE.sq b), int (BE.tm b), str (BE.vl b)]] []) from (by have h0 := (@Go.Bd.bc_run (a) (b)); simp only [if_pos c1] at h0; exact h0))] (by kernel_rfl)
  · have h := h.2 c1
    have e1 := h
    exact callC_out (Sub.int_eq e1) [kl [6, 7, 8, 12, 13, 14, 15, 16, 17, 18, 19, 20, 21, 22] 2 (show RunL P G none 0 (loopAt P 52 0) (St.mk (slots 23 [(0, AV.agg [str (BE.ky a), int (BE.dv a), int (BE.sq a), int (BE.tm a), str (BE.vl a)]), (1, AV.agg [str (BE.ky b), int (BE.dv b), int (BE.sq b), int (BE.tm b), str (BE.vl b)]), (2, AV.imm [AV.sl 1 true [[AV.fn (Fn.func 55) [] [AV.imm [AV.lit (Value.func (Fn.func 46) (Array.mk []) (Array.mk []))]]], [AV.fn (Fn.func 55) [] [AV.imm [AV.lit (Value.func (Fn.func 39) (Array.mk []) (Array.mk []))]]], [AV.fn (Fn.func 55) [] [AV.imm [AV.lit (Value.func (Fn.func 40) (Array.mk []) (Array.mk []))]]]]]), (3, AV.ptr 0 0), (4, AV.ptr 1 0), (5, int 0), (9, AV.sl 1 true [[AV.fn (Fn.func 55) [] [AV.imm [AV.lit (Value.func (Fn.func 46) (Array.mk []) (Array.mk []))]]], [AV.fn (Fn.func 55) [] [AV.imm [AV.lit (Value.func (Fn.func 39) (Array.mk []) (Array.mk []))]]], [AV.fn (Fn.func 55) [] [AV.imm [AV.lit (Value.func (Fn.func 40) (Array.mk []) (Array.mk []))]]]]), (10, int 3), (11, int 0)]) [AObj.box [str (BE.ky a), int (BE.dv a), int (BE.sq a), int (BE.tm a), str (BE.vl a)], AObj.box [str (BE.ky b), int (BE.dv b), int (BE.sq b), int (BE.tm b), str (BE.vl b)]] []) AEx.ret (St.mk (slots 23 [(5, int (countsV a b))]) [AObj.box [str (BE.ky a), int (BE.dv a), int (BE.sq a), int (BE.tm a), str (BE.vl a)], AObj.box [str (BE.ky b), int (BE.dv b), int (BE.sq b), int (BE.tm b), str (BE.vl b)]] []) from (by have h0 := (@Go.Bd.bc_run (a) (b)); simp only [if_neg c1] at h0; exact h0))] (by kernel_rfl)

theorem byc_c (a b : BE) : CallC P G 52 [bel a, bel b, .imm [flds xT xD xQ]] [] (.ret (int (countsV a b))) [] := byc_w a b _ (by
  by_cases h : countsV a b = 0
  · simp [h]
  · simp [h])
theorem byFc_c : CallC P G 35 [flds xT xD xQ] [] (.ret (byF xT xD xQ)) [] := CallC.immFn (by_w xT xD xQ trivial) rfl

theorem inMap_w (a b : BE) (h : True) : CallC P G 18 [bel a, bel b] [] (AOut.ret (int (inMapV a b))) [] := by
  have _ := h
  exact callC_of [kc [] (@Go.Bd.fldS_c (37)), kc [] (@Go.Bd.fldI_c (39)), kc [] (@Go.Bd.fldI_c (40)), kc [] (@Go.Bd.byFm_c ), kc [] (@Go.Bd.bym_c (a) (b))] (by kernel_rfl)

theorem counts_w (a b : BE) (h : True) : CallC P G 27 [bel a, bel b] [] (AOut.ret (int (countsV a b))) [] := by
  have _ := h
  exact callC_of [kc [] (@Go.Bd.fldI_c (46)), kc [] (@Go.Bd.fldI_c (39)), kc [] (@Go.Bd.fldI_c (40)), kc [] (@Go.Bd.byFc_c ), kc [] (@Go.Bd.byc_c (a) (b))] (by kernel_rfl)

theorem inMap_c (a b : BE) : CallC P G 18 [bel a, bel b] [] (.ret (int (inMapV a b))) [] := inMap_w a b trivial
theorem counts_c (a b : BE) : CallC P G 27 [bel a, bel b] [] (.ret (int (countsV a b))) [] := counts_w a b trivial
end Go.Bd

/- BINDS, 3: what is valid; less; Few. -/
namespace Go.Bd
set_option maxRecDepth 100000
set_option linter.unusedSimpArgs false
set_option linter.unusedVariables false
open Go Go.Am Go.Proofs Go.Seat

def validB (x : BE) : Bool := decide ((x.ky.size : Int) ≤ 64) && decide ((x.vl.size : Int) ≤ 4096) && decide (x.tm ≥ 1) && decide (x.tm ≤ 1099511627776) && decide (x.dv ≥ 0) && decide (x.dv < 512) && decide (x.sq ≥ 1) && decide (x.sq ≤ 1048576)
/-- A Dot stands before another one. -/
def earB (a b c d : Int) : Bool := decide (a < c) || (decide (a = c) && decide (b < d))
def lessB (a b : BE) : Bool := ltS a.ky b.ky || (decide (a.ky = b.ky) && earB a.dv a.sq b.dv b.sq)
def moreB (a b : BE) : Bool := decide (a.tm > b.tm) || (decide (a.tm = b.tm) && earB b.dv b.sq a.dv a.sq)

theorem valid_w (a : BE) (h : ((((↑(ByteArray.size (BE.ky a)) : Int) ≤ (64 : Int)) → ((((↑(ByteArray.size (BE.vl a)) : Int) ≤ (4096 : Int)) → (((BE.tm a ≥ (1 : Int)) → (((BE.tm a ≤ (1099511627776 : Int)) → (((BE.dv a ≥ (0 : Int)) → (((BE.dv a < (512 : Int)) → (((BE.sq a ≥ (1 : Int)) → (decide (BE.sq a ≤ (1048576 : Int))) = (validB a)) ∧ ((¬BE.sq a ≥ (1 : Int)) → (false) = (validB a)))) ∧ ((¬BE.dv a < (512 : Int)) → (false) = (validB a)))) ∧ ((¬BE.dv a ≥ (0 : Int)) → (false) = (validB a)))) ∧ ((¬BE.tm a ≤ (1099511627776 : Int)) → (false) = (validB a)))) ∧ ((¬BE.tm a ≥ (1 : Int)) → (false) = (validB a)))) ∧ ((¬(↑(ByteArray.size (BE.vl a)) : Int) ≤ (4096 : Int)) → (false) = (validB a)))) ∧ ((¬(↑(ByteArray.size (BE.ky a)) : Int) ≤ (64 : Int)) → (false) = (validB a)))) : CallC P G 17 [bel a] [] (AOut.ret (Am.bool (validB a))) [] := by
  by_cases c1 : ((↑(ByteArray.size (BE.ky a)) : Int) ≤ (64 : Int))
  · have h := h.1 c1
    by_cases c2 : ((↑(ByteArray.size (BE.vl a)) : Int) ≤ (4096 : Int))
    · have h := h.1 c2
      by_cases c3 : (BE.tm a ≥ (1 : Int))
      · have h := h.1 c3
        by_cases c4 : (BE.tm a ≤ (1099511627776 : Int))
        · have h := h.1 c4
          by_cases c5 : (BE.dv a ≥ (0 : Int))
          · have h := h.1 c5
            by_cases c6 : (BE.dv a < (512 : Int))
            · have h := h.1 c6
              by_cases c7 : (BE.sq a ≥ (1 : Int))
              · have h := h.1 c7
                have e1 := h
                exact callC_out (Sub.bool_eq e1) [kt (decide_eq_true c1), kt (decide_eq_true c2), kt (decide_eq_true c3), kt (decide_eq_true c4), kt (decide_eq_true c5), kt (decide_eq_true c6), kt (decide_eq_true c7)] (by kernel_rfl)
              · have h := h.2 c7
                have e1 := h
                exact callC_out (Sub.bool_eq e1) [kt (decide_eq_true c1), kt (decide_eq_true c2), kt (decide_eq_true c3), kt (decide_eq_true c4), kt (decide_eq_true c5), kt (decide_eq_true c6), kf (decide_eq_false c7)] (by kernel_rfl)
            · have h := h.2 c6
              have e1 := h
              exact callC_out (Sub.bool_eq e1) [kt (decide_eq_true c1), kt (decide_eq_true c2), kt (decide_eq_true c3), kt (decide_eq_true c4), kt (decide_eq_true c5), kf (decide_eq_false c6), kf (Eq.refl false)] (by kernel_rfl)
          · have h := h.2 c5
            have e1 := h
            exact callC_out (Sub.bool_eq e1) [kt (decide_eq_true c1), kt (decide_eq_true c2), kt (decide_eq_true c3), kt (decide_eq_true c4), kf (decide_eq_false c5), kf (Eq.refl false), kf (Eq.refl false)] (by kernel_rfl)
        · have h := h.2 c4
          have e1 := h
          exact callC_out (Sub.bool_eq e1) [kt (decide_eq_true c1), kt (decide_eq_true c2), kt (decide_eq_true c3), kf (decide_eq_false c4), kf (Eq.refl false), kf (Eq.refl false), kf (Eq.refl false)] (by kernel_rfl)
      · have h := h.2 c3
        have e1 := h
        exact callC_out (Sub.bool_eq e1) [kt (decide_eq_true c1), kt (decide_eq_true c2), kf (decide_eq_false c3), kf (Eq.refl false), kf (Eq.refl false), kf (Eq.refl false), kf (Eq.refl false)] (by kernel_rfl)
    · have h := h.2 c2
      have e1 := h
      exact callC_out (Sub.bool_eq e1) [kt (decide_eq_true c1), kf (decide_eq_false c2), kf (Eq.refl false), kf (Eq.refl false), kf (Eq.refl false), kf (Eq.refl false), kf (Eq.refl false)] (by kernel_rfl)
  · have h := h.2 c1
    have e1 := h
    exact callC_out (Sub.bool_eq e1) [kf (decide_eq_false c1), kf (Eq.refl false), kf (Eq.refl false), kf (Eq.refl false), kf (Eq.refl false), kf (Eq.refl false), kf (Eq.refl false)] (by kernel_rfl)

theorem rvalid_w (a : BE) (h : ((((↑(ByteArray.size (BE.ky a)) : Int) ≤ (64 : Int)) → ((((↑(ByteArray.size (BE.vl a)) : Int) ≤ (4096 : Int)) → (((BE.tm a ≥ (1 : Int)) → (((BE.tm a ≤ (1099511627776 : Int)) → (((BE.dv a ≥ (0 : Int)) → (((BE.dv a < (512 : Int)) → (((BE.sq a ≥ (1 : Int)) → (decide (BE.sq a ≤ (1048576 : Int))) = (validB a)) ∧ ((¬BE.sq a ≥ (1 : Int)) → (false) = (validB a)))) ∧ ((¬BE.dv a < (512 : Int)) → (false) = (validB a)))) ∧ ((¬BE.dv a ≥ (0 : Int)) → (false) = (validB a)))) ∧ ((¬BE.tm a ≤ (1099511627776 : Int)) → (false) = (validB a)))) ∧ ((¬BE.tm a ≥ (1 : Int)) → (false) = (validB a)))) ∧ ((¬(↑(ByteArray.size (BE.vl a)) : Int) ≤ (4096 : Int)) → (false) = (validB a)))) ∧ ((¬(↑(ByteArray.size (BE.ky a)) : Int) ≤ (64 : Int)) → (false) = (validB a)))) : CallC P G 13 [bel a] [] (AOut.ret (Am.bool (validB a))) [] := by
  by_cases c1 : ((↑(ByteArray.size (BE.ky a)) : Int) ≤ (64 : Int))
  · have h := h.1 c1
    by_cases c2 : ((↑(ByteArray.size (BE.vl a)) : Int) ≤ (4096 : Int))
    · have h := h.1 c2
      by_cases c3 : (BE.tm a ≥ (1 : Int))
      · have h := h.1 c3
        by_cases c4 : (BE.tm a ≤ (1099511627776 : Int))
        · have h := h.1 c4
          by_cases c5 : (BE.dv a ≥ (0 : Int))
          · have h := h.1 c5
            by_cases c6 : (BE.dv a < (512 : Int))
            · have h := h.1 c6
              by_cases c7 : (BE.sq a ≥ (1 : Int))
              · have h := h.1 c7
                have e1 := h
                exact callC_out (Sub.bool_eq e1) [kt (decide_eq_true c1), kt (decide_eq_true c2), kt (decide_eq_true c3), kt (decide_eq_true c4), kt (decide_eq_true c5), kt (decide_eq_true c6), kt (decide_eq_true c7)] (by kernel_rfl)
              · have h := h.2 c7
                have e1 := h
                exact callC_out (Sub.bool_eq e1) [kt (decide_eq_true c1), kt (decide_eq_true c2), kt (decide_eq_true c3), kt (decide_eq_true c4), kt (decide_eq_true c5), kt (decide_eq_true c6), kf (decide_eq_false c7)] (by kernel_rfl)
            · have h := h.2 c6
              have e1 := h
              exact callC_out (Sub.bool_eq e1) [kt (decide_eq_true c1), kt (decide_eq_true c2), kt (decide_eq_true c3), kt (decide_eq_true c4), kt (decide_eq_true c5), kf (decide_eq_false c6), kf (Eq.refl false)] (by kernel_rfl)
          · have h := h.2 c5
            have e1 := h
            exact callC_out (Sub.bool_eq e1) [kt (decide_eq_true c1), kt (decide_eq_true c2), kt (decide_eq_true c3), kt (decide_eq_true c4), kf (decide_eq_false c5), kf (Eq.refl false), kf (Eq.refl false)] (by kernel_rfl)
        · have h := h.2 c4
          have e1 := h
          exact callC_out (Sub.bool_eq e1) [kt (decide_eq_true c1), kt (decide_eq_true c2), kt (decide_eq_true c3), kf (decide_eq_false c4), kf (Eq.refl false), kf (Eq.refl false), kf (Eq.refl false)] (by kernel_rfl)
      · have h := h.2 c3
        have e1 := h
        exact callC_out (Sub.bool_eq e1) [kt (decide_eq_true c1), kt (decide_eq_true c2), kf (decide_eq_false c3), kf (Eq.refl false), kf (Eq.refl false), kf (Eq.refl false), kf (Eq.refl false)] (by kernel_rfl)
    · have h := h.2 c2
      have e1 := h
      exact callC_out (Sub.bool_eq e1) [kt (decide_eq_true c1), kf (decide_eq_false c2), kf (Eq.refl false), kf (Eq.refl false), kf (Eq.refl false), kf (Eq.refl false), kf (Eq.refl false)] (by kernel_rfl)
  · have h := h.2 c1
    have e1 := h
    exact callC_out (Sub.bool_eq e1) [kf (decide_eq_false c1), kf (Eq.refl false), kf (Eq.refl false), kf (Eq.refl false), kf (Eq.refl false), kf (Eq.refl false), kf (Eq.refl false)] (by kernel_rfl)

theorem valid_c (a : BE) : CallC P G 17 [bel a] [] (.ret (bool (validB a))) [] := valid_w a (by
  unfold validB; grind)
theorem rvalid_c (a : BE) : CallC P G 13 [bel a] [] (.ret (bool (validB a))) [] := rvalid_w a (by
  unfold validB; grind)

theorem bind_w (k : ByteArray) (a b c : Int) (s : ByteArray) (h : True) : CallC P G 16 [str k, int a, int b, int c, str s] [] (AOut.ret (bel (BE.mk k a b c s))) [] := by
  have _ := h
  exact callC_of [] (by kernel_rfl)

theorem bind_c (k : ByteArray) (a b c : Int) (s : ByteArray) : CallC P G 16 [str k, int a, int b, int c, str s] [] (.ret (bel ⟨k, a, b, c, s⟩)) [] := bind_w k a b c s trivial

end Go.Bd

/- VECTOR, 1: what IsDot, Check, Few, Same and At do, in both packages. -/
namespace Go.Vec
set_option maxRecDepth 100000
set_option linter.unusedSimpArgs false
set_option linter.unusedVariables false
open Go Go.Am Go.Proofs Go.Seat

def isDotB (d : D) : Bool := decide (d.1 ≥ 0) && decide (d.1 < 512) && decide (d.2 ≥ 1) && decide (d.2 ≤ 1048576)

theorem isDot_w (a b : Int) (h : (((a ≥ (0 : Int)) → (((a < (512 : Int)) → (((b ≥ (1 : Int)) → (decide (b ≤ (1048576 : Int))) = (isDotB (a, b))) ∧ ((¬b ≥ (1 : Int)) → (false) = (isDotB (a, b))))) ∧ ((¬a < (512 : Int)) → (false) = (isDotB (a, b))))) ∧ ((¬a ≥ (0 : Int)) → (false) = (isDotB (a, b))))) : CallC P G 42 [dot (a, b)] [] (AOut.ret (Am.bool (isDotB (a, b)))) [] := by
  by_cases c1 : (a ≥ (0 : Int))
  · have h := h.1 c1
    by_cases c2 : (a < (512 : Int))
    · have h := h.1 c2
      by_cases c3 : (b ≥ (1 : Int))
      · have h := h.1 c3
        have e1 := h
        exact callC_out (Sub.bool_eq e1) [kt (decide_eq_true c1), kt (decide_eq_true c2), kt (decide_eq_true c3)] (by kernel_rfl)
      · have h := h.2 c3
        have e1 := h
        exact callC_out (Sub.bool_eq e1) [kt (decide_eq_true c1), kt (decide_eq_true c2), kf (decide_eq_false c3)] (by kernel_rfl)
    · have h := h.2 c2
      have e1 := h
      exact callC_out (Sub.bool_eq e1) [kt (decide_eq_true c1), kf (decide_eq_false c2), kf (Eq.refl false)] (by kernel_rfl)
  · have h := h.2 c1
    have e1 := h
    exact callC_out (Sub.bool_eq e1) [kf (decide_eq_false c1), kf (Eq.refl false), kf (Eq.refl false)] (by kernel_rfl)

theorem isDot_c (a b : Int) : CallC P G 42 [dot (a, b)] [] (.ret (bool (isDotB (a, b)))) [] := isDot_w a b (by
  simp only [isDotB]; refine ⟨fun h => ⟨fun h => ⟨fun h => ?_, fun h => ?_⟩, fun h => ?_⟩, fun h => ?_⟩ <;> simp [*])

/-! Check -/
def okAt (v : List D) (k : Nat) : Bool := match v[k]? with
  | some x => isDotB x && (k == 0 || match v[k - 1]? with | some y => decide (y.1 < x.1) | none => false)
  | none => true
def okN (v : List D) : Nat → Nat → Bool
  | 0, _ => true
  | n + 1, k => okAt v k && okN v n (k + 1)
def okB (v : List D) : Bool := okN v v.length 0
def checkE (v : List D) : Int := if okB v = true then 0 else 120

def chkSt (v : List D) (k : Nat) : St := { env := slots 31 [(0, vec v), (2, int 0), (5, vec v), (6, int v.length), (7, int k)], H := [] }

theorem chk_w (v : List D) (k : Nat) (hv : v.length ≤ 1000000000) (ex : AEx) (r : Int) (h : ((((↑k : Int) < (↑(List.length v) : Int)) → (∃ x2 : D, (v[k]? = some x2) ∧ ((((isDotB (Prod.fst x2, Prod.snd x2)) = true) → ((((↑k : Int) > (0 : Int)) → (∃ x6 : D, ((0 : Int) ≤ (↑k : Int) - 1 ∧ v[Int.toNat ((↑k : Int) - 1)]? = some x6) ∧ (((Prod.fst x2 ≤ Prod.fst x6) → (AEx.ret = ex) ∧ ((120 : Int) = (r))) ∧ ((¬Prod.fst x2 ≤ Prod.fst x6) → RunL P G none 0 (loopAt P 20 0) (St.mk (slots 31 [(0, AV.sl 2 false (encs v)), (2, int 0), (5, AV.sl 2 false (encs v)), (6, int (↑(List.length v) : Int)), (7, int (↑(k + 1) : Int))]) [] []) ex (St.mk (slots 31 [(2, int r)]) [] []))))) ∧ ((¬(↑k : Int) > (0 : Int)) → RunL P G none 0 (loopAt P 20 0) (St.mk (slots 31 [(0, AV.sl 2 false (encs v)), (2, int 0), (5, AV.sl 2 false (encs v)), (6, int (↑(List.length v) : Int)), (7, int (↑(k + 1) : Int))]) [] []) ex (St.mk (slots 31 [(2, int r)]) [] [])))) ∧ (((isDotB (Prod.fst x2, Prod.snd x2)) = false) → (AEx.ret = ex) ∧ ((120 : Int) = (r)))))) ∧ ((¬(↑k : Int) < (↑(List.length v) : Int)) → (AEx.exit 0 = ex) ∧ ((0 : Int) = (r))))) : RunL P G none 0 (loopAt P 20 0) (chkSt v k) ex (St.mk (slots 31 [(2, int r)]) [] []) := by
  by_cases c1 : ((↑k : Int) < (↑(List.length v) : Int))
  · have h := h.1 c1
    obtain ⟨x2, o3, h⟩ := h
    have hz0 : (0 : Int) ≤ (↑k : Int) ∧ (encs v)[Int.toNat (↑k : Int)]? = some (enc x2) := (el_nat o3)
    have hz1 := (@Go.Vec.isDot_c (Prod.fst x2) (Prod.snd x2))
    rcases Bool.eq_false_or_eq_true ((isDotB (Prod.fst x2, Prod.snd x2))) with c4 | c4
    · have h := h.1 c4
      have hz2 : (!isDotB (Prod.fst x2, Prod.snd x2)) = false := (congrArg Bool.not (c4))
      by_cases c5 : ((↑k : Int) > (0 : Int))
      · have h := h.1 c5
        have hz3 : Am.Sub (int (IntKind.wrap IntKind.i64 ((↑k : Int) - 1))) (int ((↑k : Int) - 1)) := (Sub.of_wrap (by omega) (by omega) rfl)
        obtain ⟨x6, o7, h⟩ := h
        have hz4 : (0 : Int) ≤ (↑k : Int) - 1 ∧ (encs v)[Int.toNat ((↑k : Int) - 1)]? = some (enc x6) := (el_int o7)
        by_cases c8 : (Prod.fst x2 ≤ Prod.fst x6)
        · have h := h.1 c8
          obtain ⟨eX, e1⟩ := h
          exact RunL.to ((show RunL P G none 0 (loopAt P 20 0) (chkSt v k) AEx.ret (St.mk (slots 31 [(2, int 120)]) [] []) from loop_exit [kt (decide_eq_true c1), ko (Orc.elem (enc x2)), kp hz0, kc [] hz1, kf hz2, kt (decide_eq_true c5), kv 23 hz3, ko (Orc.elem (enc x6)), kp hz4, kt (decide_eq_true c8)] (others 31 [2]) 0 (by kernel_rfl))) eX (SubS.slots ⟨rfl, (Sub.int_eq e1), trivial⟩)
        · have h := h.2 c8
          exact loop_next [kt (decide_eq_true c1), ko (Orc.elem (enc x2)), kp hz0, kc [] hz1, kf hz2, kt (decide_eq_true c5), kv 23 hz3, ko (Orc.elem (enc x6)), kp hz4, kf (decide_eq_false c8), kv 30 (show Am.Sub (int (IntKind.wrap IntKind.i64 ((↑k : Int) + 1))) (int (↑(k + 1) : Int)) from (Sub.of_wrap (by omega) (by omega) (by omega)))] (others 31 [0, 2, 5, 6, 7]) 0 h (by kernel_rfl)
      · have h := h.2 c5
        exact loop_next [kt (decide_eq_true c1), ko (Orc.elem (enc x2)), kp hz0, kc [] hz1, kf hz2, kf (decide_eq_false c5), kf (Eq.refl false), kv 30 (show Am.Sub (int (IntKind.wrap IntKind.i64 ((↑k : Int) + 1))) (int (↑(k + 1) : Int)) from (Sub.of_wrap (by omega) (by omega) (by omega)))] (others 31 [0, 2, 5, 6, 7]) 0 h (by kernel_rfl)
    · have h := h.2 c4
      obtain ⟨eX, e1⟩ := h
      exact RunL.to ((show RunL P G none 0 (loopAt P 20 0) (chkSt v k) AEx.ret (St.mk (slots 31 [(2, int 120)]) [] []) from loop_exit [kt (decide_eq_true c1), ko (Orc.elem (enc x2)), kp hz0, kc [] hz1, kt (show (!isDotB (Prod.fst x2, Prod.snd x2)) = true from (congrArg Bool.not (c4))), kt (Eq.refl true)] (others 31 [2]) 0 (by kernel_rfl))) eX (SubS.slots ⟨rfl, (Sub.int_eq e1), trivial⟩)
  · have h := h.2 c1
    obtain ⟨eX, e1⟩ := h
    exact RunL.to ((show RunL P G none 0 (loopAt P 20 0) (chkSt v k) (AEx.exit 0) (St.mk (slots 31 [(2, int 0)]) [] []) from loop_exit [kf (decide_eq_false c1)] (others 31 [2]) 0 (by kernel_rfl))) eX (SubS.slots ⟨rfl, (Sub.int_eq e1), trivial⟩)

theorem chk_loop (v : List D) (hv : v.length ≤ 1000000000) : ∀ n k, v.length - k = n → k ≤ v.length →
    RunL P G none 0 (loopAt P 20 0) (chkSt v k) (if okN v n k = true then .exit 0 else .ret) { env := slots 31 [(2, int (if okN v n k = true then 0 else 120))], H := [] } := by
  intro n
  induction n with
  | zero => intro k hn hk; exact chk_w v k hv _ _ ⟨fun h => absurd h (by omega), fun _ => ⟨rfl, rfl⟩⟩
  | succ n ih =>
    intro k hn hk
    have hlt : k < v.length := by omega
    have hx : v[k]? = some v[k] := List.getElem?_eq_getElem hlt
    have nx : ∀ {b : Bool}, okAt v k = true → okN v (n + 1) k = okN v n (k + 1) := fun h => by simp [okN, h]
    have bad : okAt v k = false → okN v (n + 1) k = false := fun h => by simp [okN, h]
    refine chk_w v k hv _ _ ⟨fun h => ⟨v[k], hx, ⟨fun hq => ⟨fun h0 => ?_, fun h0 => ?_⟩, fun hq => ?_⟩⟩, fun h => absurd hlt (by omega)⟩
    · have hy : v[k - 1]? = some (v[k - 1]'(by omega)) := List.getElem?_eq_getElem (by omega)
      refine ⟨v[k - 1]'(by omega), ⟨by omega, by rw [show ((k : Int) - 1).toNat = k - 1 by omega]; exact hy⟩, ⟨fun hl => ?_, fun hl => ?_⟩⟩
      · have hb : okAt v k = false := by simp only [okAt, hx, hy]; simp; exact fun _ => ⟨by omega, by omega⟩
        rw [bad hb]; exact ⟨rfl, rfl⟩
      · have hb : okAt v k = true := by simp only [okAt, hx, hy, Bool.and_eq_true]; exact ⟨hq, by simp; exact .inr (by omega)⟩
        rw [nx (b := true) hb]; exact ih (k + 1) (by omega) (by omega)
    · have hb : okAt v k = true := by simp only [okAt, hx, Bool.and_eq_true]; exact ⟨hq, by simp; exact .inl (by omega)⟩
      rw [nx (b := true) hb]; exact ih (k + 1) (by omega) (by omega)
    · have hb : okAt v k = false := by simp only [okAt, hx]; simp [hq]
      rw [bad hb]; exact ⟨rfl, rfl⟩

theorem chk_c (v : List D) (hv : v.length ≤ 1000000000) : RunL P G none 0 (loopAt P 20 0) (chkSt v 0) (if okB v = true then .exit 0 else .ret) { env := slots 31 [(2, int (if okB v = true then 0 else 120))], H := [] } :=
  chk_loop v hv v.length 0 (by omega) (by omega)

theorem check_w (v : List D) (hv : v.length ≤ 1000000000) (h : (((okB v = true) → (0 : Int) = (checkE v)) ∧ ((¬okB v = true) → (120 : Int) = (checkE v)))) : CallC P G 20 [vec v] [] (AOut.ret (int (checkE v))) [] := by
  have hz0 : Am.Sub (int (↑(List.length (encs v)) : Int)) (int (↑(List.length v) : Int)) := (Sub.of_eq (by simp only [Go.Vec.encs_length]))
  by_cases c1 : (okB v = true)
  · have h := h.1 c1
    have e1 := h
    exact callC_out (Sub.int_eq e1) [kv 6 hz0, kl [1, 3, 4, 8, 9, 10, 11, 12, 13, 14, 15, 16, 17, 18, 19, 20, 21, 22, 23, 24, 25, 26, 27, 28, 29, 30] 0 (show RunL P G none 0 (loopAt P 20 0) (St.mk (slots 31 [(0, AV.sl 2 false (encs v)), (2, int 0), (5, AV.sl 2 false (encs v)), (6, int (↑(List.length v) : Int)), (7, int 0)]) [] []) (AEx.exit 0) (St.mk (slots 31 [(2, int 0)]) [] []) from (by have h0 := (@Go.Vec.chk_c (v) (by omega)); simp only [if_pos c1] at h0; exact h0))] (by kernel_rfl)
  · have h := h.2 c1
    have e1 := h
    exact callC_out (Sub.int_eq e1) [kv 6 hz0, kl [1, 3, 4, 8, 9, 10, 11, 12, 13, 14, 15, 16, 17, 18, 19, 20, 21, 22, 23, 24, 25, 26, 27, 28, 29, 30] 0 (show RunL P G none 0 (loopAt P 20 0) (St.mk (slots 31 [(0, AV.sl 2 false (encs v)), (2, int 0), (5, AV.sl 2 false (encs v)), (6, int (↑(List.length v) : Int)), (7, int 0)]) [] []) AEx.ret (St.mk (slots 31 [(2, int 120)]) [] []) from (by have h0 := (@Go.Vec.chk_c (v) (by omega)); simp only [if_neg c1] at h0; exact h0))] (by kernel_rfl)

theorem check_c (v : List D) (hv : v.length ≤ 1000000000) : CallC P G 20 [vec v] [] (.ret (int (checkE v))) [] := check_w v hv ⟨fun h => by simp [checkE, h], fun h => by simp [checkE, h]⟩

/-! Same -/
/-! At -/
def hasV (dev : Int) (l : List D) : Bool := l.any fun d => decide (d.1 = dev)
def atV (dev : Int) : List D → Int
  | [] => 0
  | d :: t => if d.1 = dev then d.2 else atV dev t
theorem hasV_cons (dev : Int) (d : D) (t : List D) : hasV dev (d :: t) = (decide (d.1 = dev) || hasV dev t) := rfl
theorem atV_has {dev : Int} : ∀ {l : List D}, hasV dev l = false → atV dev l = 0
  | [], _ => rfl
  | d :: t, h => by
    simp only [hasV, List.any_cons, Bool.or_eq_false_iff, decide_eq_false_iff_not] at h
    rw [atV, if_neg h.1]
    exact atV_has (by simpa [hasV] using h.2)

def ratSt (v : List D) (dev : Int) (k : Nat) : St := { env := slots 24 [(0, vec v), (1, int dev), (4, int 0), (5, int k)], H := [] }

theorem rat_w (v : List D) (dev : Int) (k : Nat) (hv : v.length ≤ 1000000000) (ex : AEx) (r : Int) (h : ((((↑k : Int) < (↑(List.length v) : Int)) → (∃ x2 : D, (v[k]? = some x2) ∧ (((Prod.fst x2 = dev) → (AEx.ret = ex) ∧ ((Prod.snd x2 : Int) = (r))) ∧ ((¬Prod.fst x2 = dev) → RunL P G none 0 (loopAt P 32 0) (St.mk (slots 24 [(0, AV.sl 2 false (encs v)), (1, int dev), (4, int 0), (5, int (↑(k + 1) : Int))]) [] []) ex (St.mk (slots 24 [(4, int r)]) [] []))))) ∧ ((¬(↑k : Int) < (↑(List.length v) : Int)) → (AEx.exit 0 = ex) ∧ ((0 : Int) = (r))))) : RunL P G none 0 (loopAt P 32 0) (ratSt v dev k) ex (St.mk (slots 24 [(4, int r)]) [] []) := by
  have hz0 : Am.Sub (int (↑(List.length (encs v)) : Int)) (int (↑(List.length v) : Int)) := (Sub.of_eq (by simp only [Go.Vec.encs_length]))
  by_cases c1 : ((↑k : Int) < (↑(List.length v) : Int))
  · have h := h.1 c1
    obtain ⟨x2, o3, h⟩ := h
    have hz1 : (0 : Int) ≤ (↑k : Int) ∧ (encs v)[Int.toNat (↑k : Int)]? = some (enc x2) := (el_nat o3)
    by_cases c4 : (Prod.fst x2 = dev)
    · have h := h.1 c4
      obtain ⟨eX, e1⟩ := h
      exact RunL.to ((show RunL P G none 0 (loopAt P 32 0) (ratSt v dev k) AEx.ret (St.mk (slots 24 [(4, int (Prod.snd x2))]) [] []) from loop_exit [kv 8 hz0, kt (decide_eq_true c1), ko (Orc.elem (enc x2)), kp hz1, kt (beq_iff_eq.2 c4), ko (Orc.elem (enc x2)), kp hz1] (others 24 [4]) 0 (by kernel_rfl))) eX (SubS.slots ⟨rfl, (Sub.int_eq e1), trivial⟩)
    · have h := h.2 c4
      exact loop_next [kv 8 hz0, kt (decide_eq_true c1), ko (Orc.elem (enc x2)), kp hz1, kf (beq_eq_false_iff_ne.2 c4), kv 11 (show Am.Sub (int (IntKind.wrap IntKind.i64 ((↑k : Int) + 1))) (int (↑(k + 1) : Int)) from (Sub.of_wrap (by omega) (by omega) (by omega)))] (others 24 [0, 1, 4, 5]) 0 h (by kernel_rfl)
  · have h := h.2 c1
    obtain ⟨eX, e1⟩ := h
    exact RunL.to ((show RunL P G none 0 (loopAt P 32 0) (ratSt v dev k) (AEx.exit 0) (St.mk (slots 24 [(4, int 0)]) [] []) from loop_exit [kv 8 hz0, kf (decide_eq_false c1)] (others 24 [4]) 0 (by kernel_rfl))) eX (SubS.slots ⟨rfl, (Sub.int_eq e1), trivial⟩)

theorem rat_loop (v : List D) (dev : Int) (hv : v.length ≤ 1000000000) : ∀ n k, v.length - k = n → k ≤ v.length →
    RunL P G none 0 (loopAt P 32 0) (ratSt v dev k) (if hasV dev (v.drop k) = true then .ret else .exit 0) { env := slots 24 [(4, int (atV dev (v.drop k)))], H := [] } := by
  intro n
  induction n with
  | zero =>
    intro k hn hk
    have e : v.drop k = [] := List.drop_of_length_le (by omega)
    rw [e]
    exact rat_w v dev k hv _ _ ⟨fun h => absurd h (by omega), fun _ => ⟨rfl, rfl⟩⟩
  | succ n ih =>
    intro k hn hk
    have hlt : k < v.length := by omega
    have e := List.drop_eq_getElem_cons hlt
    refine rat_w v dev k hv _ _ ⟨fun h => ⟨v[k], List.getElem?_eq_getElem hlt, ⟨fun hq => ?_, fun hq => ?_⟩⟩, fun h => absurd hlt (by omega)⟩
    · rw [e, hasV_cons]; simp [atV, hq]
    · have h1 : hasV dev (v.drop k) = hasV dev (v.drop (k + 1)) := by rw [e, hasV_cons]; simp [hq]
      have h2 : atV dev (v.drop k) = atV dev (v.drop (k + 1)) := by rw [e]; simp [atV, hq]
      rw [h1, h2]
      exact ih (k + 1) (by omega) (by omega)

theorem rat_l (v : List D) (dev : Int) (hv : v.length ≤ 1000000000) : RunL P G none 0 (loopAt P 32 0) (ratSt v dev 0) (if hasV dev v = true then .ret else .exit 0) { env := slots 24 [(4, int (atV dev v))], H := [] } :=
  rat_loop v dev hv _ 0 rfl (by omega)

theorem rat_f (v : List D) (dev : Int) (hv : v.length ≤ 1000000000) (h : (((hasV dev v = true) → True) ∧ ((¬hasV dev v = true) → (0 : Int) = (atV dev v)))) : CallC P G 32 [vec v, int dev] [] (AOut.ret (int (atV dev v))) [] := by
  by_cases c1 : (hasV dev v = true)
  · have h := h.1 c1
    have _ := h
    exact callC_of [kl [2, 3, 6, 7, 8, 9, 10, 11, 12, 13, 14, 15, 16, 17, 18, 19, 20, 21, 22, 23] 0 (show RunL P G none 0 (loopAt P 32 0) (St.mk (slots 24 [(0, AV.sl 2 false (encs v)), (1, int dev), (4, int 0), (5, int 0)]) [] []) AEx.ret (St.mk (slots 24 [(4, int (atV dev v))]) [] []) from (by have h0 := (@Go.Vec.rat_l (v) (dev) (by omega)); simp only [if_pos c1] at h0; exact h0))] (by kernel_rfl)
  · have h := h.2 c1
    have e1 := h
    exact callC_out (Sub.int_eq e1) [kl [2, 3, 6, 7, 8, 9, 10, 11, 12, 13, 14, 15, 16, 17, 18, 19, 20, 21, 22, 23] 0 (show RunL P G none 0 (loopAt P 32 0) (St.mk (slots 24 [(0, AV.sl 2 false (encs v)), (1, int dev), (4, int 0), (5, int 0)]) [] []) (AEx.exit 0) (St.mk (slots 24 [(4, int (atV dev v))]) [] []) from (by have h0 := (@Go.Vec.rat_l (v) (dev) (by omega)); simp only [if_neg c1] at h0; exact h0))] (by kernel_rfl)

theorem rat_c (v : List D) (dev : Int) (hv : v.length ≤ 1000000000) : CallC P G 32 [vec v, int dev] [] (.ret (int (atV dev v))) [] :=
  rat_f v dev hv ⟨fun _ => trivial, fun h => (atV_has (by simpa using h)).symm⟩

theorem at1_w (a b dev : Int) (h : True) : CallC P G 60 [dot (a, b), AV.ptr 0 0] [AObj.box [int dev]] (AOut.ret (Am.bool (decide (a = dev)))) [AObj.box [int dev]] := by
  have _ := h
  exact callC_of [] (by kernel_rfl)

theorem at1_c (a b dev : Int) : CallC P G 60 [dot (a, b), .ptr 0 0] [.box [int dev]] (.ret (bool (decide (a = dev)))) [.box [int dev]] := at1_w a b dev trivial

def ixSt (v : List D) (dev : Int) (k : Nat) : St := { env := slots 19 [(0, vec v), (1, .fn (.func 60) [] [.ptr 0 0]), (4, int 0), (6, vec v), (7, int v.length), (8, int k)], H := [.box [int dev]] }

theorem ix_w (v : List D) (dev : Int) (k : Nat) (hv : v.length ≤ 1000000000) (ex : AEx) (r : Int) (h : ((((↑k : Int) < (↑(List.length v) : Int)) → (∃ x2 : D, (v[k]? = some x2) ∧ (((Prod.fst x2 = dev) → (AEx.ret = ex) ∧ (((↑k : Int) : Int) = (r))) ∧ ((¬Prod.fst x2 = dev) → RunL P G none 1 (loopAt P 59 0) (St.mk (slots 19 [(0, AV.sl 2 false (encs v)), (1, AV.fn (Fn.func 60) [] [AV.ptr 0 0]), (4, int 0), (6, AV.sl 2 false (encs v)), (7, int (↑(List.length v) : Int)), (8, int (↑(k + 1) : Int))]) [AObj.box [int dev]] []) ex (St.mk (slots 19 [(4, int r)]) [AObj.box [int dev]] []))))) ∧ ((¬(↑k : Int) < (↑(List.length v) : Int)) → (AEx.exit 0 = ex) ∧ ((0 : Int) = (r))))) : RunL P G none 1 (loopAt P 59 0) (ixSt v dev k) ex (St.mk (slots 19 [(4, int r)]) [AObj.box [int dev]] []) := by
  by_cases c1 : ((↑k : Int) < (↑(List.length v) : Int))
  · have h := h.1 c1
    obtain ⟨x2, o3, h⟩ := h
    have hz0 : (0 : Int) ≤ (↑k : Int) ∧ (encs v)[Int.toNat (↑k : Int)]? = some (enc x2) := (el_nat o3)
    have hz1 := (@Go.Vec.at1_c (Prod.fst x2) (Prod.snd x2) (dev))
    by_cases c4 : (Prod.fst x2 = dev)
    · have h := h.1 c4
      obtain ⟨eX, e1⟩ := h
      exact RunL.to ((show RunL P G none 1 (loopAt P 59 0) (ixSt v dev k) AEx.ret (St.mk (slots 19 [(4, int (↑k : Int))]) [AObj.box [int dev]] []) from loop_exit [kt (decide_eq_true c1), ko (Orc.elem (enc x2)), kp hz0, kc [0] hz1, kt (decide_eq_true c4)] (others 19 [4]) 1 (by kernel_rfl))) eX (SubS.slots ⟨rfl, (Sub.int_eq e1), trivial⟩)
    · have h := h.2 c4
      exact loop_next [kt (decide_eq_true c1), ko (Orc.elem (enc x2)), kp hz0, kc [0] hz1, kf (decide_eq_false c4), kv 18 (show Am.Sub (int (IntKind.wrap IntKind.i64 ((↑k : Int) + 1))) (int (↑(k + 1) : Int)) from (Sub.of_wrap (by omega) (by omega) (by omega)))] (others 19 [0, 1, 4, 6, 7, 8]) 1 h (by kernel_rfl)
  · have h := h.2 c1
    obtain ⟨eX, e1⟩ := h
    exact RunL.to ((show RunL P G none 1 (loopAt P 59 0) (ixSt v dev k) (AEx.exit 0) (St.mk (slots 19 [(4, int 0)]) [AObj.box [int dev]] []) from loop_exit [kf (decide_eq_false c1)] (others 19 [4]) 1 (by kernel_rfl))) eX (SubS.slots ⟨rfl, (Sub.int_eq e1), trivial⟩)

/-- The place of a device, or -1. -/
def ixV (dev : Int) : Int → List D → Int
  | _, [] => -1
  | k, d :: t => if d.1 = dev then k else ixV dev (k + 1) t

theorem ix_loop (v : List D) (dev : Int) (hv : v.length ≤ 1000000000) : ∀ n k, v.length - k = n → k ≤ v.length →
    RunL P G none 1 (loopAt P 59 0) (ixSt v dev k) (if hasV dev (v.drop k) = true then .ret else .exit 0) { env := slots 19 [(4, int (if hasV dev (v.drop k) = true then ixV dev k (v.drop k) else 0))], H := [.box [int dev]] } := by
  intro n
  induction n with
  | zero =>
    intro k hn hk
    have e : v.drop k = [] := List.drop_of_length_le (by omega)
    rw [e]
    exact ix_w v dev k hv _ _ ⟨fun h => absurd h (by omega), fun _ => ⟨rfl, rfl⟩⟩
  | succ n ih =>
    intro k hn hk
    have hlt : k < v.length := by omega
    have e := List.drop_eq_getElem_cons hlt
    refine ix_w v dev k hv _ _ ⟨fun h => ⟨v[k], List.getElem?_eq_getElem hlt, ⟨fun hq => ?_, fun hq => ?_⟩⟩, fun h => absurd hlt (by omega)⟩
    · rw [e, hasV_cons]; simp [ixV, hq]
    · have h1 : hasV dev (v.drop k) = hasV dev (v.drop (k + 1)) := by rw [e, hasV_cons]; simp [hq]
      have h2 : ixV dev k (v.drop k) = ixV dev ((k + 1 : Nat) : Int) (v.drop (k + 1)) := by rw [e]; simp [ixV, hq]
      rw [h1, h2]
      exact ih (k + 1) (by omega) (by omega)

theorem ix_l (v : List D) (dev : Int) (hv : v.length ≤ 1000000000) : RunL P G none 1 (loopAt P 59 0) (ixSt v dev 0) (if hasV dev v = true then .ret else .exit 0) { env := slots 19 [(4, int (if hasV dev v = true then ixV dev 0 v else 0))], H := [.box [int dev]] } :=
  ix_loop v dev hv _ 0 rfl (by omega)

theorem ix_f (v : List D) (dev : Int) (hv : v.length ≤ 1000000000) (h : (((hasV dev v = true) → True) ∧ ((¬hasV dev v = true) → (-1 : Int) = (ixV dev 0 v)))) : CallC P G 59 [vec v, AV.fn (Fn.func 60) [] [AV.ptr 0 0]] [AObj.box [int dev]] (AOut.ret (int (ixV dev 0 v))) [AObj.box [int dev]] := by
  have hz0 : Am.Sub (int (↑(List.length (encs v)) : Int)) (int (↑(List.length v) : Int)) := (Sub.of_eq (by simp only [Go.Vec.encs_length]))
  by_cases c1 : (hasV dev v = true)
  · have h := h.1 c1
    have _ := h
    exact callC_of [kv 7 hz0, kl [2, 3, 5, 9, 10, 11, 12, 13, 14, 15, 16, 17, 18] 1 (show RunL P G none 1 (loopAt P 59 0) (St.mk (slots 19 [(0, AV.sl 2 false (encs v)), (1, AV.fn (Fn.func 60) [] [AV.ptr 0 0]), (4, int 0), (6, AV.sl 2 false (encs v)), (7, int (↑(List.length v) : Int)), (8, int 0)]) [AObj.box [int dev]] []) AEx.ret (St.mk (slots 19 [(4, int (ixV dev 0 v))]) [AObj.box [int dev]] []) from (by have h0 := (@Go.Vec.ix_l (v) (dev) (by omega)); simp only [if_pos c1] at h0; exact h0))] (by kernel_rfl)
  · have h := h.2 c1
    have e1 := h
    exact callC_out (Sub.int_eq e1) [kv 7 hz0, kl [2, 3, 5, 9, 10, 11, 12, 13, 14, 15, 16, 17, 18] 1 (show RunL P G none 1 (loopAt P 59 0) (St.mk (slots 19 [(0, AV.sl 2 false (encs v)), (1, AV.fn (Fn.func 60) [] [AV.ptr 0 0]), (4, int 0), (6, AV.sl 2 false (encs v)), (7, int (↑(List.length v) : Int)), (8, int 0)]) [AObj.box [int dev]] []) (AEx.exit 0) (St.mk (slots 19 [(4, int 0)]) [AObj.box [int dev]] []) from (by have h0 := (@Go.Vec.ix_l (v) (dev) (by omega)); simp only [if_neg c1] at h0; exact h0))] (by kernel_rfl)

theorem ixV_none {dev : Int} : ∀ {v : List D} {k : Int}, hasV dev v = false → ixV dev k v = -1
  | [], _, _ => rfl
  | d :: t, k, h => by
    simp only [hasV, List.any_cons, Bool.or_eq_false_iff, decide_eq_false_iff_not] at h
    rw [ixV, if_neg h.1]
    exact ixV_none (by simpa [hasV] using h.2)
theorem ix_c (v : List D) (dev : Int) (hv : v.length ≤ 1000000000) : CallC P G 59 [vec v, .fn (.func 60) [] [.ptr 0 0]] [.box [int dev]] (.ret (int (ixV dev 0 v))) [.box [int dev]] :=
  ix_f v dev hv ⟨fun _ => trivial, fun h => (ixV_none (by simpa using h)).symm⟩

theorem at_f (v : List D) (dev : Int) (hv : v.length ≤ 1000000000) (h : (((ixV dev 0 v ≥ (0 : Int)) → (∃ x2 : D, ((0 : Int) ≤ ixV dev 0 v ∧ v[Int.toNat (ixV dev 0 v)]? = some x2) ∧ (Prod.snd x2 : Int) = (atV dev v))) ∧ ((¬ixV dev 0 v ≥ (0 : Int)) → (0 : Int) = (atV dev v)))) : CallC P G 43 [vec v, int dev] [] (AOut.ret (int (atV dev v))) [] := by
  have hz0 := (@Go.Vec.ix_c (v) (dev) (by omega))
  by_cases c1 : (ixV dev 0 v ≥ (0 : Int))
  · have h := h.1 c1
    obtain ⟨x2, o3, h⟩ := h
    have e1 := h
    exact callC_out (Sub.int_eq e1) [kc [0] hz0, kt (decide_eq_true c1), ko (Orc.elem (enc x2)), kp (show (0 : Int) ≤ ixV dev 0 v ∧ (encs v)[Int.toNat (ixV dev 0 v)]? = some (enc x2) from (el_int o3))] (by kernel_rfl)
  · have h := h.2 c1
    have e1 := h
    exact callC_out (Sub.int_eq e1) [kc [0] hz0, kf (decide_eq_false c1)] (by kernel_rfl)

theorem ixV_at {dev : Int} : ∀ {v : List D} {k : Nat}, (∃ j d, ixV dev k v = ((k + j : Nat) : Int) ∧ v[j]? = some d ∧ d.2 = atV dev v) ∨ (ixV dev k v = -1 ∧ atV dev v = 0)
  | [], k => .inr ⟨rfl, rfl⟩
  | d :: t, k => by
    by_cases hq : d.1 = dev
    · exact .inl ⟨0, d, by simp [ixV, hq], rfl, by simp [atV, hq]⟩
    · rcases ixV_at (dev := dev) (v := t) (k := k + 1) with ⟨j, d', h1, h2, h3⟩ | ⟨h1, h2⟩
      · exact .inl ⟨j + 1, d', by rw [ixV, if_neg hq]; push_cast at h1 ⊢; rw [h1]; omega, by simpa using h2, by rw [atV, if_neg hq]; exact h3⟩
      · exact .inr ⟨by rw [ixV, if_neg hq]; push_cast at h1; exact h1, by rw [atV, if_neg hq]; exact h2⟩
theorem at_c (v : List D) (dev : Int) (hv : v.length ≤ 1000000000) : CallC P G 43 [vec v, int dev] [] (.ret (int (atV dev v))) [] := by
  refine at_f v dev hv ?_
  rcases ixV_at (dev := dev) (v := v) (k := 0) with ⟨j, d, h1, h2, h3⟩ | ⟨h1, h2⟩
  · have h1 : ixV dev 0 v = (j : Int) := by simpa using h1
    rw [h1]
    exact ⟨fun _ => ⟨d, ⟨by omega, by simpa using h2⟩, h3⟩, fun h => absurd (by omega) h⟩
  · have h1 : ixV dev 0 v = -1 := by simpa using h1
    rw [h1]
    exact ⟨fun h => absurd h (by omega), fun _ => h2.symm⟩

def coversB (v : List D) (d : D) : Bool := decide (d.2 ≥ 1) && decide (d.2 ≤ atV d.1 v)

theorem covers_f (v : List D) (a b : Int) (hv : v.length ≤ 1000000000) (h : (((b ≥ (1 : Int)) → (decide (b ≤ atV a v)) = (coversB v (a, b))) ∧ ((¬b ≥ (1 : Int)) → (false) = (coversB v (a, b))))) : CallC P G 22 [vec v, dot (a, b)] [] (AOut.ret (Am.bool (coversB v (a, b)))) [] := by
  by_cases c1 : (b ≥ (1 : Int))
  · have h := h.1 c1
    have e1 := h
    exact callC_out (Sub.bool_eq e1) [kt (decide_eq_true c1), kc [] (@Go.Vec.at_c (v) (a) (by omega))] (by kernel_rfl)
  · have h := h.2 c1
    have e1 := h
    exact callC_out (Sub.bool_eq e1) [kf (decide_eq_false c1)] (by kernel_rfl)

theorem rcovers_f (v : List D) (a b : Int) (hv : v.length ≤ 1000000000) (h : (((b ≥ (1 : Int)) → (decide (b ≤ atV a v)) = (coversB v (a, b))) ∧ ((¬b ≥ (1 : Int)) → (false) = (coversB v (a, b))))) : CallC P G 14 [vec v, dot (a, b)] [] (AOut.ret (Am.bool (coversB v (a, b)))) [] := by
  by_cases c1 : (b ≥ (1 : Int))
  · have h := h.1 c1
    have e1 := h
    exact callC_out (Sub.bool_eq e1) [kt (decide_eq_true c1), kc [] (@Go.Vec.rat_c (v) (a) (by omega))] (by kernel_rfl)
  · have h := h.2 c1
    have e1 := h
    exact callC_out (Sub.bool_eq e1) [kf (decide_eq_false c1)] (by kernel_rfl)

theorem covers_c (v : List D) (a b : Int) (hv : v.length ≤ 1000000000) : CallC P G 22 [vec v, dot (a, b)] [] (.ret (bool (coversB v (a, b)))) [] :=
  covers_f v a b hv (by simp only [coversB]; exact ⟨fun h => by simp [h], fun h => by simp [h]⟩)
theorem rcovers_c (v : List D) (a b : Int) (hv : v.length ≤ 1000000000) : CallC P G 14 [vec v, dot (a, b)] [] (.ret (bool (coversB v (a, b)))) [] :=
  rcovers_f v a b hv (by simp only [coversB]; exact ⟨fun h => by simp [h], fun h => by simp [h]⟩)

end Go.Vec

/- BINDS, plain: the order of strings and of binds; what a map is; what Put, Drop, Values and Keys answer. -/
namespace Go.Bd
set_option maxRecDepth 100000
set_option linter.unusedSimpArgs false
set_option linter.unusedVariables false
open Go Go.Am Go.Proofs Go.Seat

theorem bl_eq : ∀ (x y : List UInt8), Op.bytesLess x y = decide (x < y)
  | [], [] => by simp [Op.bytesLess]
  | _ :: _, [] => by simp [Op.bytesLess]
  | [], _ :: _ => by simp [Op.bytesLess]
  | a :: x, b :: y => by
    rw [Op.bytesLess, bl_eq x y]
    simp only [List.cons_lt_cons_iff]
    by_cases h1 : a < b <;> by_cases h2 : a = b <;> by_cases h3 : x < y <;> simp [h1, h2, h3]
theorem ba_ext {a b : ByteArray} (h : a.toList = b.toList) : a = b := by
  rw [ByteArray.toList_eq, ByteArray.toList_eq] at h
  exact ByteArray.ext (Array.toList_inj.1 h)
theorem ltS_iff (a b : ByteArray) : ltS a b = true ↔ a.toList < b.toList := by rw [ltS, bl_eq, decide_eq_true_iff]
theorem ltS_irrefl (a : ByteArray) : ltS a a = false := by rw [Bool.eq_false_iff, ne_eq, ltS_iff]; exact List.lt_irrefl _
theorem ltS_trans {a b c : ByteArray} (h1 : ltS a b = true) (h2 : ltS b c = true) : ltS a c = true := by
  rw [ltS_iff] at *; exact List.lt_trans h1 h2
theorem ltS_asymm {a b : ByteArray} (h1 : ltS a b = true) : ltS b a = false := by
  rw [Bool.eq_false_iff]; intro h2
  have := ltS_trans h1 h2
  rw [ltS_irrefl] at this; cases this
theorem ltS_tri (a b : ByteArray) : ltS a b = true ∨ a = b ∨ ltS b a = true := by
  rw [ltS_iff, ltS_iff]
  by_cases h1 : a.toList < b.toList
  · exact .inl h1
  · by_cases h2 : b.toList < a.toList
    · exact .inr (.inr h2)
    · exact .inr (.inl (ba_ext (List.le_antisymm (List.not_lt.1 h2) (List.not_lt.1 h1))))
theorem ltS_ne {a b : ByteArray} (h : ltS a b = true) : a ≠ b := fun e => by rw [e, ltS_irrefl] at h; cases h
theorem ear_iff {a b c d : Int} : earB a b c d = true ↔ a < c ∨ (a = c ∧ b < d) := by simp [earB]
theorem less_iff {a b : BE} : lessB a b = true ↔ ltS a.ky b.ky = true ∨ (a.ky = b.ky ∧ (a.dv < b.dv ∨ (a.dv = b.dv ∧ a.sq < b.sq))) := by
  simp [lessB, ear_iff]
theorem less_trans {a b c : BE} (h1 : lessB a b = true) (h2 : lessB b c = true) : lessB a c = true := by
  rw [less_iff] at *
  rcases h1 with h1 | ⟨e1, h1⟩ <;> rcases h2 with h2 | ⟨e2, h2⟩
  · exact .inl (ltS_trans h1 h2)
  · exact .inl (e2 ▸ h1)
  · exact .inl (e1 ▸ h2)
  · exact .inr ⟨e1.trans e2, by omega⟩
theorem cmpS_lt {a b : ByteArray} : cmpSV a b < 0 ↔ ltS a b = true := by
  unfold cmpSV
  cases h : ltS a b
  · simp; split <;> decide
  · simp
theorem cmpS_eq {a b : ByteArray} : cmpSV a b = 0 ↔ a = b := by
  unfold cmpSV
  cases h : ltS a b
  · simp
  · simp; exact ltS_ne h
theorem inMap_lt (a b : BE) : inMapV a b < 0 ↔ lessB a b = true := by
  rw [less_iff, ← cmpS_lt]
  unfold inMapV thn
  by_cases h : cmpSV a.ky b.ky = 0
  · rw [if_pos h]
    have e := cmpS_eq.1 h
    rw [h]
    unfold cmpV
    simp only [e, true_and]
    grind
  · rw [if_neg h]
    have e : a.ky ≠ b.ky := fun e => h (cmpS_eq.2 e)
    simp [e]
theorem inMap_ge (a b : BE) : inMapV a b ≥ 0 ↔ lessB a b = false := by
  rw [Bool.eq_false_iff, ne_eq, ← inMap_lt]; omega

/-! A map -/
def okAt (v : List BE) (k : Nat) : Bool := match v[k]? with
  | some x => validB x && (k == 0 || match v[k - 1]? with | some y => lessB y x | none => false) && !((v.take k).any fun c => decide (c.dot = x.dot))
  | none => true
def okN (v : List BE) : Nat → Nat → Bool
  | 0, _ => true
  | n + 1, k => okAt v k && okN v n (k + 1)
def okB (v : List BE) : Bool := okN v v.length 0
def chkE (v : List BE) : Int := if okB v = true then 0 else 140
theorem okN_iff (v : List BE) : ∀ n k, v.length - k = n → (okN v n k = true ↔ ∀ i, k ≤ i → i < v.length → okAt v i = true)
  | 0, k, hn => by simp only [okN, true_iff]; intro i h1 h2; omega
  | n + 1, k, hn => by
    rw [okN, Bool.and_eq_true, okN_iff v n (k + 1) (by omega)]
    constructor
    · rintro ⟨h1, h2⟩ i hi hl
      rcases Nat.lt_or_ge k i with h | h
      · exact h2 i h hl
      · have : i = k := by omega
        subst this; exact h1
    · exact fun h => ⟨h k (Nat.le_refl _) (by omega), fun i hi => h i (by omega)⟩
structure Map (v : List BE) : Prop where
  valid : ∀ b ∈ v, validB b = true
  sorted : v.Pairwise (fun a b => lessB a b = true)
  dots : (v.map BE.dot).Nodup
theorem pairwise_step {α : Type} {R : α → α → Prop} (ht : ∀ a b c, R a b → R b c → R a c) {l : List α} (h : ∀ i (hi : i + 1 < l.length), R (l[i]'(by omega)) l[i + 1]) : l.Pairwise R := by
  rw [List.pairwise_iff_getElem]
  intro i j hi hj hij
  obtain ⟨d, rfl⟩ : ∃ d, j = i + 1 + d := ⟨j - (i + 1), by omega⟩
  induction d with
  | zero => exact h i hj
  | succ d ih => exact ht _ _ _ (ih (by omega) (by omega)) (h (i + 1 + d) hj)
theorem ok_iff (v : List BE) : okB v = true ↔ Map v := by
  rw [okB, okN_iff v v.length 0 (by omega)]
  constructor
  · intro h
    have ha : ∀ i (hi : i < v.length), validB v[i] = true ∧ (i = 0 ∨ ∃ y, v[i - 1]? = some y ∧ lessB y v[i] = true) ∧ ∀ c ∈ v.take i, c.dot ≠ v[i].dot := by
      intro i hi
      have := h i (Nat.zero_le _) hi
      simp only [okAt, List.getElem?_eq_getElem hi, Bool.and_eq_true, Bool.not_eq_true', Bool.or_eq_true, beq_iff_eq] at this
      obtain ⟨⟨h1, h2⟩, h3⟩ := this
      refine ⟨h1, h2.imp id fun h2 => ?_, fun c hc => ?_⟩
      · cases hg : v[i - 1]? with
        | none => rw [hg] at h2; cases h2
        | some y => rw [hg] at h2; exact ⟨y, rfl, h2⟩
      · have := List.any_eq_false.1 h3 c hc
        simpa using this
    refine ⟨fun b hb => ?_, pairwise_step (R := fun a b => lessB a b = true) (fun _ _ _ h1 h2 => less_trans h1 h2) fun i hi => ?_, ?_⟩
    · obtain ⟨i, hi, rfl⟩ := List.getElem_of_mem hb
      exact (ha i hi).1
    · rcases (ha (i + 1) hi).2.1 with h0 | ⟨y, hy, hl⟩
      · omega
      · rw [Nat.add_sub_cancel, List.getElem?_eq_getElem (by omega)] at hy
        injection hy with hy
        rw [hy]; exact hl
    · rw [List.nodup_iff_pairwise_ne, List.pairwise_map, List.pairwise_iff_getElem]
      intro i j hi hj hij
      exact (ha j hj).2.2 _ (List.mem_take_iff_getElem.2 ⟨i, by omega, rfl⟩)
  · intro h i _ hi
    simp only [okAt, List.getElem?_eq_getElem hi, Bool.and_eq_true, Bool.not_eq_true', Bool.or_eq_true, beq_iff_eq]
    refine ⟨⟨h.valid _ (List.getElem_mem hi), ?_⟩, ?_⟩
    · rcases Nat.eq_zero_or_pos i with h0 | h0
      · exact .inl h0
      · refine .inr ?_
        rw [List.getElem?_eq_getElem (by omega)]
        exact List.pairwise_iff_getElem.1 h.sorted (i - 1) i (by omega) hi (by omega)
    · rw [List.any_eq_false]
      intro c hc
      obtain ⟨j, hj, rfl⟩ := List.mem_take_iff_getElem.1 hc
      have hd := h.dots
      rw [List.nodup_iff_pairwise_ne, List.pairwise_map, List.pairwise_iff_getElem] at hd
      simpa using hd j i (by omega) hi (by omega)

/-! Drop, Put -/
def knownB (c : List Vec.D) (key : ByteArray) (b : BE) : Bool := decide (b.ky = key) && Vec.coversB c b.dot
def rest (v : List BE) (c : List Vec.D) (key : ByteArray) : List BE := v.filter fun b => !knownB c key b
def insB (b : BE) (x : List BE) : List BE := x.takeWhile (fun a => lessB a b) ++ b :: x.dropWhile (fun a => lessB a b)
/-- What Drop answers. -/
def dropR (v : List BE) (c : List Vec.D) (key : ByteArray) : List BE × Int := if chkE v = 0 then (if Vec.checkE c = 0 then (rest v c key, 0) else ([], Vec.checkE c)) else ([], chkE v)
/-- May a bind be put? -/
def mayB (v : List BE) (c : List Vec.D) (b : BE) : Bool := validB b && !Vec.coversB c b.dot && !(v.any fun a => decide (a.dot = b.dot))
def putR (v : List BE) (c : List Vec.D) (b : BE) : List BE × Int := if chkE v = 0 then (if Vec.checkE c = 0 then (if mayB v c b = true then (insB b (rest v c b.ky), 0) else ([], 140)) else ([], Vec.checkE c)) else ([], chkE v)
theorem rest_sub (v : List BE) (c : List Vec.D) (key : ByteArray) : (rest v c key).Sublist v := List.filter_sublist
theorem rest_map {v : List BE} (h : Map v) (c : List Vec.D) (key : ByteArray) : Map (rest v c key) :=
  ⟨fun b hb => h.valid b ((rest_sub v c key).subset hb), h.sorted.sublist (rest_sub v c key), h.dots.sublist ((rest_sub v c key).map _)⟩
theorem insB_perm (b : BE) (x : List BE) : (insB b x).Perm (b :: x) := by
  unfold insB
  refine List.perm_middle.trans ?_
  rw [List.takeWhile_append_dropWhile]
theorem may_iff {v : List BE} {c : List Vec.D} {b : BE} : mayB v c b = true ↔ validB b = true ∧ Vec.coversB c b.dot = false ∧ ∀ a ∈ v, a.dot ≠ b.dot := by
  simp only [mayB, Bool.and_eq_true, Bool.not_eq_true', List.any_eq_false, decide_eq_true_eq]
  exact ⟨fun h => ⟨h.1.1, h.1.2, h.2⟩, fun h => ⟨⟨h.1, h.2.1⟩, h.2.2⟩⟩
end Go.Bd

/- BINDS, 16: SortStableFunc, of at most 20. -/
namespace Go.Bd
set_option maxRecDepth 100000
set_option linter.unusedSimpArgs false
set_option linter.unusedVariables false
open Go Go.Am Go.Proofs Go.Seat

theorem vc_w (a b : BE) (h : True) : CallC P G 26 [bel a, bel b] [] (AOut.ret (int (countsV b a))) [] := by
  have _ := h
  exact callC_of [kc [] (@Go.Bd.counts_c (b) (a))] (by kernel_rfl)

theorem vc_c (a b : BE) : CallC P G 26 [bel a, bel b] [] (.ret (int (countsV b a))) [] := vc_w a b trivial

abbrev cvF : AV := fnF 26
def isI (x : List BE) (g n i j : Nat) : St := { env := slots 53 [(0, .own 0 g 0 x.length), (1, int 0), (2, int n), (3, cvF), (8, int i), (9, int j)], H := [.arr g 5 false (encs x)] }
def isO (x : List BE) (g n i : Nat) : St := { env := slots 53 [(0, .own 0 g 0 x.length), (1, int 0), (2, int n), (3, cvF), (8, int i)], H := [.arr g 5 false (encs x)] }

theorem isi_s (x : List BE) (g n i j : Nat) (e y : BE) (hx : x.length ≤ 1000) (hj : j < x.length) (hj0 : (j : Int) > 0) (hxe : x[0 + j]? = some e) (hxy : x[0 + Int.toNat ((↑j : Int) - 1)]? = some y) (hq : countsV y e < (0 : Int)) (ex : AEx) (s : St) (h : (∃ x3 : List AV, ((List.set (encs x) (0 + j) [str (BE.ky y), int (BE.dv y), int (BE.sq y), int (BE.tm y), str (BE.vl y)])[0 + Int.toNat ((↑j : Int) - 1)]? = some x3) ∧ RunL P G none 1 (loopAt P 61 1) (St.mk (slots 53 [(0, AV.own 0 g 0 (List.length x)), (1, int 0), (2, int (↑n : Int)), (3, AV.lit (Value.func (Fn.func 26) (Array.mk []) (Array.mk []))), (8, int (↑i : Int)), (9, int ((↑j : Int) - 1))]) [AObj.arr g 5 false (List.set (List.set (encs x) (0 + j) [str (BE.ky y), int (BE.dv y), int (BE.sq y), int (BE.tm y), str (BE.vl y)]) (0 + Int.toNat ((↑j : Int) - 1)) (str (BE.ky e) :: int (BE.dv e) :: int (BE.sq e) :: int (BE.tm e) :: str (BE.vl e) :: List.append._f [] PUnit.unit (List.drop 5 x3)))] []) ex s)) : RunL P G none 1 (loopAt P 61 1) (isI x g n i j) ex s := by
  have hz1 : g = g := (rfl)
  have hz2 : (0 : Int) ≤ (↑j : Int) ∧ (↑j : Int) < (↑(List.length x) : Int) := (by omega)
  have hz3 : (encs x)[0 + Int.toNat (↑j : Int)]? = some (enc e) := (el_get hxe)
  have hz4 : Am.Sub (int (IntKind.wrap IntKind.i64 ((↑j : Int) - 1))) (int ((↑j : Int) - 1)) := (Sub.of_wrap (by omega) (by omega) rfl)
  have hz5 : (0 : Int) ≤ (↑j : Int) - 1 ∧ (↑j : Int) - 1 < (↑(List.length x) : Int) := (by omega)
  have hz6 : (encs x)[0 + Int.toNat ((↑j : Int) - 1)]? = some (enc y) := (el_get hxy)
  obtain ⟨x3, o4, h⟩ := h
  exact loop_next [kt (show decide ((↑j : Int) > (0 : Int)) = true from (decide_eq_true (by omega))), ko (Orc.elem (enc e)), kp hz1, kp hz2, kp hz1, kp hz3, kv 29 hz4, ko (Orc.elem (enc y)), kp hz1, kp hz5, kp hz1, kp hz6, kc [] (@Go.Bd.vc_c (e) (y)), kt (show decide (countsV y e < (0 : Int)) = true from (decide_eq_true (by omega))), kv 41 hz4, kv 44 hz4, ko (Orc.elem (enc y)), ko (Orc.elem (enc e)), ko (Orc.elem (enc e)), ko (Orc.elem x3), kp hz1, kp hz5, kp hz1, kp hz6, kp hz1, kp hz2, kp hz1, kp hz3, kp hz1, kp hz2, kp hz1, kp hz3, kp hz1, kp hz5, kp hz1, kp o4, kv 36 hz4] (others 53 [0, 1, 2, 3, 8, 9]) 1 h (by kernel_rfl)

theorem isi_x (x : List BE) (g n i j : Nat) (e y : BE) (hx : x.length ≤ 1000) (hj : j < x.length) (hj0 : (j : Int) > 0) (hxe : x[0 + j]? = some e) (hxy : x[0 + Int.toNat ((↑j : Int) - 1)]? = some y) (hq : ¬ countsV y e < (0 : Int)) (h : True) : RunL P G none 1 (loopAt P 61 1) (isI x g n i j) (AEx.exit 2) (isO x g n i) := by
  have hz1 : g = g := (rfl)
  have _ := h
  exact loop_exit [kt (show decide ((↑j : Int) > (0 : Int)) = true from (decide_eq_true (by omega))), ko (Orc.elem (enc e)), kp hz1, kp (show (0 : Int) ≤ (↑j : Int) ∧ (↑j : Int) < (↑(List.length x) : Int) from (by omega)), kp hz1, kp (show (encs x)[0 + Int.toNat (↑j : Int)]? = some (enc e) from (el_get hxe)), kv 29 (show Am.Sub (int (IntKind.wrap IntKind.i64 ((↑j : Int) - 1))) (int ((↑j : Int) - 1)) from (Sub.of_wrap (by omega) (by omega) rfl)), ko (Orc.elem (enc y)), kp hz1, kp (show (0 : Int) ≤ (↑j : Int) - 1 ∧ (↑j : Int) - 1 < (↑(List.length x) : Int) from (by omega)), kp hz1, kp (show (encs x)[0 + Int.toNat ((↑j : Int) - 1)]? = some (enc y) from (el_get hxy)), kc [] (@Go.Bd.vc_c (e) (y)), kf (show decide (countsV y e < (0 : Int)) = false from (decide_eq_false (by omega)))] (others 53 [0, 1, 2, 3, 8]) 1 (by kernel_rfl)

theorem isi_z (x : List BE) (g n i j : Nat) (hj0 : ¬ (j : Int) > 0) (h : True) : RunL P G none 1 (loopAt P 61 1) (isI x g n i j) (AEx.exit 2) (isO x g n i) := by
  have _ := h
  exact loop_exit [kf (show decide ((↑j : Int) > (0 : Int)) = false from (decide_eq_false (by omega))), kf (Eq.refl false)] (others 53 [0, 1, 2, 3, 8]) 1 (by kernel_rfl)

/-- One is moved left past those that count less; the list in reverse. -/
def mv : List BE → BE → List BE
  | [], e => [e]
  | y :: t, e => if moreB e y = true then mv t e ++ [y] else t.reverse ++ [y, e]
def srt : List BE → List BE → List BE
  | l, [] => l
  | l, e :: t => srt (mv l.reverse e) t
theorem mv_len : ∀ (l : List BE) (e : BE), (mv l e).length = l.length + 1
  | [], _ => rfl
  | y :: t, e => by
    rw [mv]
    split
    · rw [List.length_append, mv_len t e]; simp
    · simp
theorem counts_lt (a b : BE) : countsV a b < 0 ↔ moreB b a = true := by
  unfold countsV thn cmpV moreB earB
  simp only [Bool.or_eq_true, Bool.and_eq_true, decide_eq_true_eq]
  grind
theorem isi_loop (g n i : Nat) : ∀ (Lr : List BE) (e : BE) (R : List BE), Lr.length + R.length + 1 ≤ 1000 → RunL P G none 1 (loopAt P 61 1) (isI (Lr.reverse ++ e :: R) g n i Lr.length) (.exit 2) (isO (mv Lr e ++ R) g n i)
  | [], e, R, _ => isi_z _ g n i 0 (by simp) trivial
  | y :: t, e, R, hl => by
    have hlen : ((y :: t).reverse ++ e :: R).length = t.length + R.length + 2 := by simp; omega
    have hx : (y :: t).reverse ++ e :: R = t.reverse ++ y :: e :: R := by simp
    have hj : ((y :: t).length : Int) - 1 = (t.length : Int) := by simp
    have he : ((y :: t).reverse ++ e :: R)[0 + (y :: t).length]? = some e := by
      rw [hx, Nat.zero_add, List.length_cons, List.getElem?_append_right (by simp)]
      simp
    have hy : ((y :: t).reverse ++ e :: R)[0 + Int.toNat (((y :: t).length : Int) - 1)]? = some y := by
      rw [hx, Nat.zero_add, hj, Int.toNat_natCast, List.getElem?_append_right (by simp)]
      simp
    have hl2 : t.length + 1 + R.length + 1 ≤ 1000 := by simpa using hl
    cases hm : moreB e y with
    | true =>
      have ih := isi_loop g n i t e (y :: R) (by simp; omega)
      rw [mv, if_pos hm, List.append_assoc, List.singleton_append]
      refine isi_s _ g n i _ e y (by rw [hlen]; omega) (by rw [hlen, List.length_cons]; omega) (by simp) he hy ((counts_lt _ _).2 hm) _ _ ⟨enc y, ?_, ?_⟩
      · rw [hj, Int.toNat_natCast, List.getElem?_set_ne (by simp), encs_get?]
        rw [hj, Int.toNat_natCast] at hy
        rw [hy]; rfl
      · rw [hj, Int.toNat_natCast]
        have e1 : List.set (encs ((y :: t).reverse ++ e :: R)) (0 + (y :: t).length) [str y.ky, int y.dv, int y.sq, int y.tm, str y.vl] = encs (((y :: t).reverse ++ e :: R).set (0 + (y :: t).length) y) := encs_set _ _ _
        have e2 : ∀ L : List BE, List.set (encs L) (0 + t.length) (str e.ky :: int e.dv :: int e.sq :: int e.tm :: str e.vl :: List.append._f [] PUnit.unit (List.drop 5 (enc y))) = encs (L.set (0 + t.length) e) := fun L => encs_set L _ e
        have e3 : (((y :: t).reverse ++ e :: R).set (0 + (y :: t).length) y).set (0 + t.length) e = t.reverse ++ e :: y :: R := by
          rw [hx, Nat.zero_add, Nat.zero_add, List.length_cons, List.set_append_right _ _ (by simp), List.length_reverse, List.set_append_right _ _ (by simp), List.length_reverse]
          simp
        rw [e1, e2, e3]
        have e4 : isI (t.reverse ++ e :: y :: R) g n i t.length = { env := slots 53 [(0, .own 0 g 0 ((y :: t).reverse ++ e :: R).length), (1, int 0), (2, int n), (3, cvF), (8, int i), (9, int t.length)], H := [.arr g 5 false (encs (t.reverse ++ e :: y :: R))] } := by
          rw [isI, hlen, show (t.reverse ++ e :: y :: R).length = t.length + R.length + 2 by simp; omega]
        rw [e4] at ih
        exact ih
    | false =>
      rw [mv, if_neg (by rw [hm]; decide)]
      have := isi_x _ g n i _ e y (by rw [hlen]; omega) (by rw [hlen, List.length_cons]; omega) (by simp) he hy (fun h => by rw [(counts_lt _ _).1 h] at hm; cases hm) trivial
      have e5 : t.reverse ++ [y, e] ++ R = (y :: t).reverse ++ e :: R := by simp
      rw [e5]
      exact this

theorem iso_s (x z : List BE) (g n i : Nat) (hx : x.length ≤ 1000) (hi : (i : Int) < (n : Int)) (hn : n ≤ 1000) (hz : z.length = x.length) (hL : RunL P G none 1 (loopAt P 61 1) (isI x g n i i) (.exit 2) (isO z g n i)) (ex : AEx) (s : St) (h : RunL P G none 1 (loopAt P 61 0) (St.mk (slots 53 [(0, AV.own 0 g 0 (List.length z)), (1, int 0), (2, int (↑n : Int)), (3, AV.lit (Value.func (Fn.func 26) (Array.mk []) (Array.mk []))), (8, int (↑(i + 1) : Int))]) [AObj.arr g 5 false (encs z)] []) ex s) : RunL P G none 1 (loopAt P 61 0) (isO x g n i) ex s := by
  exact loop_next [kt (show decide ((↑i : Int) < (↑n : Int)) = true from (decide_eq_true (by omega))), kl [12, 13, 14, 17] 1 (@hL ), kv 16 (show Am.Sub (int (IntKind.wrap IntKind.i64 ((↑i : Int) + 1))) (int (↑(i + 1) : Int)) from (Sub.of_wrap (by omega) (by omega) (by omega)))] (others 53 [0, 1, 2, 3, 8]) 1 h (by kernel_rfl)

def isX (x : List BE) (g : Nat) : St := { env := slots 53 [(0, .own 0 g 0 x.length)], H := [.arr g 5 false (encs x)] }

theorem iso_x (x : List BE) (g n i : Nat) (hi : ¬ (i : Int) < (n : Int)) (h : True) : RunL P G none 1 (loopAt P 61 0) (isO x g n i) (AEx.exit 0) (isX x g) := by
  have _ := h
  exact loop_exit [kf (show decide ((↑i : Int) < (↑n : Int)) = false from (decide_eq_false (by omega)))] (others 53 [0]) 1 (by kernel_rfl)

theorem iso_loop (g n : Nat) (hn : n ≤ 1000) : ∀ (R l : List BE), l.length + R.length = n → RunL P G none 1 (loopAt P 61 0) (isO (l ++ R) g n l.length) (.exit 0) (isX (srt l R) g)
  | [], l, h => by
    rw [List.append_nil, srt]
    exact iso_x l g n l.length (by simp at h; omega) trivial
  | e :: t, l, h => by
    have h' : l.length + (t.length + 1) = n := by simpa using h
    have hlen : (l ++ e :: t).length = n := by simpa using h
    have hin := isi_loop g n l.length l.reverse e t (by simp; omega)
    rw [List.reverse_reverse, List.length_reverse] at hin
    have hm := mv_len l.reverse e
    rw [List.length_reverse] at hm
    have ih := iso_loop g n hn t (mv l.reverse e) (by omega)
    rw [hm] at ih
    rw [srt]
    exact iso_s (l ++ e :: t) (mv l.reverse e ++ t) g n l.length (by omega) (by omega) hn (by rw [List.length_append, hm]; omega) hin _ _ ih

theorem iso_f (x z : List BE) (g : Nat) (hx : x.length ≤ 1000) (hz : z.length = x.length) (hL : RunL P G none 1 (loopAt P 61 0) (isO x g x.length 1) (.exit 0) (isX z g)) (h : True) : CallC P G 61 [AV.own 0 g 0 (List.length x), int 0, int (↑(List.length x) : Int), cvF] [AObj.arr g 5 false (encs x)] (AOut.ret (AV.tup [])) [AObj.arr g 5 false (encs z)] := by
  have _ := h
  exact callC_of [kl [4, 5, 6, 7, 9, 10, 11, 12, 13, 14, 15, 16, 17, 18, 19, 20, 21, 22, 23, 24, 25, 26, 27, 28, 29, 30, 31, 32, 33, 34, 35, 36, 37, 38, 39, 40, 41, 42, 43, 44, 45, 46, 47, 48, 49, 50, 51, 52] 1 (@hL )] (by kernel_rfl)

theorem is2_x (x : List BE) (g : Nat) (h : True) : RunL P G none 1 (loopAt P 61 0) (St.mk (slots 53 [(0, AV.own 0 g 0 (List.length x)), (1, int 20), (2, int 20), (3, cvF), (8, int 21)]) [AObj.arr g 5 false (encs x)] []) (AEx.exit 0) (isX x g) := by
  have _ := h
  exact loop_exit [kf (Eq.refl false)] (others 53 [0]) 1 (by kernel_rfl)

theorem is2_f (x : List BE) (g : Nat) (n : Int) (hn : n = 20) (hL : RunL P G none 1 (loopAt P 61 0) { env := slots 53 [(0, .own 0 g 0 x.length), (1, int 20), (2, int 20), (3, cvF), (8, int 21)], H := [.arr g 5 false (encs x)] } (.exit 0) (isX x g)) (h : True) : CallC P G 61 [AV.own 0 g 0 (List.length x), int 20, int 20, cvF] [AObj.arr g 5 false (encs x)] (AOut.ret (AV.tup [])) [AObj.arr g 5 false (encs x)] := by
  have _ := h
  exact callC_of [kl [4, 5, 6, 7, 9, 10, 11, 12, 13, 14, 15, 16, 17, 18, 19, 20, 21, 22, 23, 24, 25, 26, 27, 28, 29, 30, 31, 32, 33, 34, 35, 36, 37, 38, 39, 40, 41, 42, 43, 44, 45, 46, 47, 48, 49, 50, 51, 52] 1 (@hL )] (by kernel_rfl)

def stS (x : List BE) (g m : Nat) (n a b : Int) : St := { env := slots 63 [(0, .own 0 g 0 m), (1, int n), (2, cvF), (6, int 20), (7, int a), (8, int b)], H := [.arr g 5 false (encs x)] }
def stX (x : List BE) (g m : Nat) (n a : Int) : St := { env := slots 63 [(0, .own 0 g 0 m), (1, int n), (2, cvF), (6, int 20), (7, int a)], H := [.arr g 5 false (encs x)] }
def stY (x : List BE) (g m : Nat) (n : Int) : St := { env := slots 63 [(0, .own 0 g 0 m), (1, int n), (2, cvF), (6, int 20)], H := [.arr g 5 false (encs x)] }

theorem st0_x (x : List BE) (g m : Nat) (n a b : Int) (hb : ¬ b ≤ n) (h : True) : RunL P G none 1 (loopAt P 45 0) (stS x g m n a b) (AEx.exit 0) (stX x g m n a) := by
  have _ := h
  exact loop_exit [kf (show decide (b ≤ n) = false from (decide_eq_false (by omega)))] (others 63 [0, 1, 2, 6, 7]) 1 (by kernel_rfl)

theorem st0_s (x z : List BE) (g m : Nat) (n : Int) (hn : n = 20) (h0 : CallC P G 61 [.own 0 g 0 m, int 0, int 20, cvF] [.arr g 5 false (encs x)] (.ret (.tup [])) [.arr g 5 false (encs z)]) (ex : AEx) (s : St) (h : RunL P G none 1 (loopAt P 45 0) (St.mk (slots 63 [(0, AV.own 0 g 0 m), (1, int n), (2, AV.lit (Value.func (Fn.func 26) (Array.mk []) (Array.mk []))), (6, int 20), (7, int 20), (8, int 40)]) [AObj.arr g 5 false (encs z)] []) ex s) : RunL P G none 1 (loopAt P 45 0) (stS x g m n 0 20) ex s := by
  exact loop_next [kt (show decide ((20 : Int) ≤ n) = true from (decide_eq_true (by omega))), kc [0] (@h0 ), kp (show ∀ (x : List AV), x ∈ encs z → AV.idsInL [] x = true from (Go.Bd.encs_ids _)), kp (show ∀ (x_1 : List AV), x_1 ∈ encs x → AV.idsInL [] x_1 = true from (Go.Bd.encs_ids _))] (others 63 [0, 1, 2, 6, 7, 8]) 1 h (by kernel_rfl)

theorem st1_x (x : List BE) (g m : Nat) (n : Int) (hn : n ≤ 20) (h : True) : RunL P G none 1 (loopAt P 45 1) (stY x g m n) (AEx.exit 2) (St.mk (slots 63 [(0, AV.own 0 g 0 m)]) [AObj.arr g 5 false (encs x)] []) := by
  have _ := h
  exact loop_exit [kf (show decide ((20 : Int) < n) = false from (decide_eq_false (by omega)))] (others 63 [0]) 1 (by kernel_rfl)

theorem st_f (x y z : List BE) (g m : Nat) (n a : Int) (hL : RunL P G none 1 (loopAt P 45 0) (stS x g m n 0 20) (.exit 0) (stX y g m n a)) (h0 : CallC P G 61 [.own 0 g 0 m, int a, int n, cvF] [.arr g 5 false (encs y)] (.ret (.tup [])) [.arr g 5 false (encs z)]) (hM : RunL P G none 1 (loopAt P 45 1) (stY z g m n) (.exit 2) { env := slots 63 [(0, .own 0 g 0 m)], H := [.arr g 5 false (encs z)] }) (h : True) : CallC P G 45 [AV.own 0 g 0 m, int n, cvF] [AObj.arr g 5 false (encs x)] (AOut.ret (AV.tup [])) [AObj.arr g 5 false (encs z)] := by
  have _ := h
  exact callC_of [kl [3, 4, 5, 9, 10, 11, 12, 13, 14, 15, 16, 17, 18, 19, 20, 21, 22, 23, 24, 25, 26, 27, 28, 29, 30, 31, 32, 33, 34, 35, 36, 37, 38, 39, 40, 41, 42, 43, 44, 45, 46, 47, 48, 49, 50, 51, 52, 53, 54, 55, 56, 57, 58, 59, 60, 61, 62] 1 (@hL ), kc [0] (@h0 ), kp (show ∀ (x : List AV), x ∈ encs z → AV.idsInL [] x = true from (Go.Bd.encs_ids _)), kp (show ∀ (x : List AV), x ∈ encs y → AV.idsInL [] x = true from (Go.Bd.encs_ids _)), kl [7, 23, 24, 25, 26, 27] 1 (@hM )] (by kernel_rfl)

theorem stable_c (x : List BE) (g : Nat) (hx : x.length ≤ 20) (hne : x ≠ []) : CallC P G 45 [.own 0 g 0 x.length, int x.length, cvF] [.arr g 5 false (encs x)] (.ret (.tup [])) [.arr g 5 false (encs (srt [] x))] := by
  obtain ⟨e, t, rfl⟩ := List.exists_cons_of_ne_nil hne
  have hl := iso_loop g (e :: t).length (by omega) t [e] (by simp; omega)
  have hs : ∀ (r l : List BE), (srt l r).length = l.length + r.length := by
    intro r
    induction r with
    | nil => intro l; rfl
    | cons a r ih => intro l; rw [srt, ih, mv_len, List.length_reverse, List.length_cons]; omega
  have hz : (srt [e] t).length = (e :: t).length := by rw [hs]; simp; omega
  have h76 := iso_f (e :: t) (srt [e] t) g (by omega) hz hl trivial
  have hM : ∀ z : List BE, RunL P G none 1 (loopAt P 45 1) (stY z g (e :: t).length (e :: t).length) (.exit 2) { env := slots 63 [(0, .own 0 g 0 (e :: t).length)], H := [.arr g 5 false (encs z)] } := fun z => st1_x z g _ _ (by omega) trivial
  show CallC P G _ _ _ _ [.arr g 5 false (encs (srt [e] t))]
  rcases Nat.lt_or_ge (e :: t).length 20 with h | h
  · exact st_f (e :: t) (e :: t) (srt [e] t) g _ _ 0 (st0_x _ g _ _ _ _ (by omega) trivial) h76 (hM _) trivial
  · have e20 : (e :: t).length = 20 := by omega
    have hL : RunL P G none 1 (loopAt P 45 0) (stS (e :: t) g (e :: t).length (e :: t).length 0 20) (.exit 0) (stX (srt [e] t) g (e :: t).length (e :: t).length 20) := by
      refine st0_s (e :: t) (srt [e] t) g _ _ (by omega) ?_ _ _ (st0_x _ g _ _ _ _ (by omega) trivial)
      have := h76
      rw [e20] at this
      rw [e20]
      exact this
    have h2 := is2_f (srt [e] t) g 20 rfl (is2_x _ g trivial) trivial
    rw [hz] at h2
    refine st_f (e :: t) (srt [e] t) (srt [e] t) g _ _ 20 hL ?_ (hM _) trivial
    rw [e20] at h2 ⊢
    exact h2

theorem sts_f (x z : List BE) (g : Nat) (h0 : CallC P G 45 [.own 0 g 0 x.length, int x.length, cvF] [.arr g 5 false (encs x)] (.ret (.tup [])) [.arr g 5 false (encs z)]) (h : True) : CallC P G 25 [AV.own 0 g 0 (List.length x), cvF] [AObj.arr g 5 false (encs x)] (AOut.ret (AV.tup [])) [AObj.arr g 5 false (encs z)] := by
  have _ := h
  exact callC_of [kp (show g = g from (rfl)), kc [0] (@h0 ), kp (show ∀ (x : List AV), x ∈ encs z → AV.idsInL [] x = true from (Go.Bd.encs_ids _)), kp (show ∀ (x_1 : List AV), x_1 ∈ encs x → AV.idsInL [] x_1 = true from (Go.Bd.encs_ids _))] (by kernel_rfl)

theorem ssort_c (x : List BE) (g : Nat) (hx : x.length ≤ 20) (hne : x ≠ []) : CallC P G 25 [.own 0 g 0 x.length, cvF] [.arr g 5 false (encs x)] (.ret (.tup [])) [.arr g 5 false (encs (srt [] x))] := sts_f x _ g (stable_c x g hx hne) trivial

/-! nothing to sort -/
theorem iz_l  (h : True) : RunL P G none 0 (loopAt P 61 0) (St.mk (slots 53 [(0, nilS), (1, int 0), (2, int 0), (3, cvF), (8, int 1)]) [] []) (AEx.exit 0) (St.mk (slots 53 [(0, nilS)]) [] []) := by
  have _ := h
  exact loop_exit [kf (Eq.refl false)] (others 53 [0]) 0 (by kernel_rfl)

theorem iz_f (hL : RunL P G none 0 (loopAt P 61 0) { env := slots 53 [(0, nilS), (1, int 0), (2, int 0), (3, cvF), (8, int 1)], H := [] } (.exit 0) { env := slots 53 [(0, nilS)], H := [] }) (h : True) : CallC P G 61 [nilS, int 0, int 0, cvF] [] (AOut.ret (AV.tup [])) [] := by
  have _ := h
  exact callC_of [kl [4, 5, 6, 7, 9, 10, 11, 12, 13, 14, 15, 16, 17, 18, 19, 20, 21, 22, 23, 24, 25, 26, 27, 28, 29, 30, 31, 32, 33, 34, 35, 36, 37, 38, 39, 40, 41, 42, 43, 44, 45, 46, 47, 48, 49, 50, 51, 52] 0 (@hL )] (by kernel_rfl)

theorem sz_0  (h : True) : RunL P G none 0 (loopAt P 45 0) (St.mk (slots 63 [(0, nilS), (1, int 0), (2, cvF), (6, int 20), (7, int 0), (8, int 20)]) [] []) (AEx.exit 0) (St.mk (slots 63 [(0, nilS), (1, int 0), (2, cvF), (6, int 20), (7, int 0)]) [] []) := by
  have _ := h
  exact loop_exit [kf (Eq.refl false)] (others 63 [0, 1, 2, 6, 7]) 0 (by kernel_rfl)

theorem sz_1  (h : True) : RunL P G none 0 (loopAt P 45 1) (St.mk (slots 63 [(0, nilS), (1, int 0), (2, cvF), (6, int 20)]) [] []) (AEx.exit 2) (St.mk (slots 63 [(0, nilS)]) [] []) := by
  have _ := h
  exact loop_exit [kf (Eq.refl false)] (others 63 [0]) 0 (by kernel_rfl)

theorem sz_f (h0 : RunL P G none 0 (loopAt P 45 0) { env := slots 63 [(0, nilS), (1, int 0), (2, cvF), (6, int 20), (7, int 0), (8, int 20)], H := [] } (.exit 0) { env := slots 63 [(0, nilS), (1, int 0), (2, cvF), (6, int 20), (7, int 0)], H := [] }) (h1 : RunL P G none 0 (loopAt P 45 1) { env := slots 63 [(0, nilS), (1, int 0), (2, cvF), (6, int 20)], H := [] } (.exit 2) { env := slots 63 [(0, nilS)], H := [] }) (h2 : CallC P G 61 [nilS, int 0, int 0, cvF] [] (.ret (.tup [])) []) (h : True) : CallC P G 45 [nilS, int 0, cvF] [] (AOut.ret (AV.tup [])) [] := by
  have _ := h
  exact callC_of [kl [3, 4, 5, 9, 10, 11, 12, 13, 14, 15, 16, 17, 18, 19, 20, 21, 22, 23, 24, 25, 26, 27, 28, 29, 30, 31, 32, 33, 34, 35, 36, 37, 38, 39, 40, 41, 42, 43, 44, 45, 46, 47, 48, 49, 50, 51, 52, 53, 54, 55, 56, 57, 58, 59, 60, 61, 62] 0 (@h0 ), kc [] (@h2 ), kl [7, 23, 24, 25, 26, 27] 0 (@h1 )] (by kernel_rfl)

theorem ssz_f (h0 : CallC P G 45 [nilS, int 0, cvF] [] (.ret (.tup [])) []) (h : True) : CallC P G 25 [nilS, cvF] [] (AOut.ret (AV.tup [])) [] := by
  have _ := h
  exact callC_of [kc [] (@h0 )] (by kernel_rfl)

theorem ssortz_c : CallC P G 25 [nilS, cvF] [] (.ret (.tup [])) [] := ssz_f (sz_f (sz_0 trivial) (sz_1 trivial) (iz_f (iz_l trivial) trivial) trivial) trivial

end Go.Bd

/- BINDS, 17: Values. -/
namespace Go.Bd
set_option maxRecDepth 100000
set_option linter.unusedSimpArgs false
set_option linter.unusedVariables false
open Go Go.Am Go.Proofs Go.Seat

def va0 (v : List BE) (k : ByteArray) (i : Nat) : St := { env := slots 25 [(1, str k), (4, nilS), (7, bes v), (8, int v.length), (9, int i)], H := [] }
def va1 (v : List BE) (k : ByteArray) (i : Nat) (x : BE) (l : List BE) : St := { env := slots 25 [(1, str k), (4, .own 1 (l.length - 1) 0 l.length), (7, bes v), (8, int v.length), (9, int i)], H := [.box (enc x), .arr (l.length - 1) 5 false (encs l)] }
def vaF (x : BE) (t : List BE) : St := { env := slots 25 [(4, if t = [] then nilS else .own 1 (t.length - 1) 0 t.length)], H := if t = [] then [] else [.box (enc x), .arr (t.length - 1) 5 false (encs t)] }

theorem va0_w (v : List BE) (k : ByteArray) (i : Nat) (hv : v.length ≤ 1000000000) (ex : AEx) (s' : St) (h : ((((↑i : Int) < (↑(List.length v) : Int)) → (∃ x2 : BE, (v[i]? = some x2) ∧ ((((ByteArray.toList (BE.ky x2) == ByteArray.toList k) = true) → RunL P G none 0 (loopAt P 10 0) (St.mk (slots 25 [(1, str k), (4, AV.own 1 0 0 (List.length [BE.mk (BE.ky x2) (BE.dv x2) (BE.sq x2) (BE.tm x2) (BE.vl x2)])), (7, AV.sl 5 false (encs v)), (8, int (↑(List.length v) : Int)), (9, int (↑(i + 1) : Int))]) [AObj.box [str (BE.ky x2), int (BE.dv x2), int (BE.sq x2), int (BE.tm x2), str (BE.vl x2)], AObj.arr 0 5 false (encs [BE.mk (BE.ky x2) (BE.dv x2) (BE.sq x2) (BE.tm x2) (BE.vl x2)])] []) ex s') ∧ (((ByteArray.toList (BE.ky x2) == ByteArray.toList k) = false) → RunL P G none 0 (loopAt P 10 0) (St.mk (slots 25 [(1, str k), (4, nilS), (7, AV.sl 5 false (encs v)), (8, int (↑(List.length v) : Int)), (9, int (↑(i + 1) : Int))]) [] []) ex s')))) ∧ ((¬(↑i : Int) < (↑(List.length v) : Int)) → (AEx.exit 0 = ex) ∧ (St.mk (slots 25 [(4, nilS)]) [] [] = s')))) : RunL P G none 0 (loopAt P 10 0) (va0 v k i) ex s' := by
  by_cases c1 : ((↑i : Int) < (↑(List.length v) : Int))
  · have h := h.1 c1
    obtain ⟨x2, o3, h⟩ := h
    have hz0 : (0 : Int) ≤ (↑i : Int) ∧ (encs v)[Int.toNat (↑i : Int)]? = some (enc x2) := (el_nat o3)
    rcases Bool.eq_false_or_eq_true ((ByteArray.toList (BE.ky x2) == ByteArray.toList k)) with c4 | c4
    · have h := h.1 c4
      exact loop_next [kt (decide_eq_true c1), ko (Orc.elem (enc x2)), kp hz0, kt c4, kp (show [[str (BE.ky x2), int (BE.dv x2), int (BE.sq x2), int (BE.tm x2), str (BE.vl x2)]] ≠ [] from (by simp)), kp (show 56 ≤ 140737488355328 from (by omega)), kv 21 (show Am.Sub (int (IntKind.wrap IntKind.i64 ((↑i : Int) + 1))) (int (↑(i + 1) : Int)) from (Sub.of_wrap (by omega) (by omega) (by omega)))] (others 25 [1, 4, 7, 8, 9]) 2 h (by kernel_rfl)
    · have h := h.2 c4
      exact loop_next [kt (decide_eq_true c1), ko (Orc.elem (enc x2)), kp hz0, kf c4, kv 21 (show Am.Sub (int (IntKind.wrap IntKind.i64 ((↑i : Int) + 1))) (int (↑(i + 1) : Int)) from (Sub.of_wrap (by omega) (by omega) (by omega)))] (others 25 [1, 4, 7, 8, 9]) 0 h (by kernel_rfl)
  · have h := h.2 c1
    obtain ⟨eX, eS⟩ := h
    exact RunL.to ((show RunL P G none 0 (loopAt P 10 0) (va0 v k i) (AEx.exit 0) (St.mk (slots 25 [(4, nilS)]) [] []) from loop_exit [kf (decide_eq_false c1)] (others 25 [4]) 0 (by kernel_rfl))) eX (SubS.of_eq eS)

theorem va1_w (v : List BE) (k : ByteArray) (i : Nat) (x : BE) (l : List BE) (hv : v.length ≤ 1000000000) (hl : l.length ≤ 1000000000) (ex : AEx) (s' : St) (h : ((((↑i : Int) < (↑(List.length v) : Int)) → (∃ x2 : BE, (v[i]? = some x2) ∧ ((((ByteArray.toList (BE.ky x2) == ByteArray.toList k) = true) → RunL P G none 0 (loopAt P 10 0) (St.mk (slots 25 [(1, str k), (4, AV.own 1 (List.length l - 1 + 1) 0 (List.length (l ++ [BE.mk (BE.ky x2) (BE.dv x2) (BE.sq x2) (BE.tm x2) (BE.vl x2)]))), (7, AV.sl 5 false (encs v)), (8, int (↑(List.length v) : Int)), (9, int (↑(i + 1) : Int))]) [AObj.box [str (BE.ky x), int (BE.dv x), int (BE.sq x), int (BE.tm x), str (BE.vl x)], AObj.arr (List.length l - 1 + 1) 5 false (encs (l ++ [BE.mk (BE.ky x2) (BE.dv x2) (BE.sq x2) (BE.tm x2) (BE.vl x2)]))] []) ex s') ∧ (((ByteArray.toList (BE.ky x2) == ByteArray.toList k) = false) → RunL P G none 0 (loopAt P 10 0) (St.mk (slots 25 [(1, str k), (4, AV.own 1 (List.length l - 1) 0 (List.length l)), (7, AV.sl 5 false (encs v)), (8, int (↑(List.length v) : Int)), (9, int (↑(i + 1) : Int))]) [AObj.box [str (BE.ky x), int (BE.dv x), int (BE.sq x), int (BE.tm x), str (BE.vl x)], AObj.arr (List.length l - 1) 5 false (encs l)] []) ex s')))) ∧ ((¬(↑i : Int) < (↑(List.length v) : Int)) → (AEx.exit 0 = ex) ∧ (St.mk (slots 25 [(4, AV.own 1 (List.length l - 1) 0 (List.length l))]) [AObj.box [str (BE.ky x), int (BE.dv x), int (BE.sq x), int (BE.tm x), str (BE.vl x)], AObj.arr (List.length l - 1) 5 false (encs l)] [] = s')))) : RunL P G none 0 (loopAt P 10 0) (va1 v k i x l) ex s' := by
  by_cases c1 : ((↑i : Int) < (↑(List.length v) : Int))
  · have h := h.1 c1
    obtain ⟨x2, o3, h⟩ := h
    have hz0 : (0 : Int) ≤ (↑i : Int) ∧ (encs v)[Int.toNat (↑i : Int)]? = some (enc x2) := (el_nat o3)
    rcases Bool.eq_false_or_eq_true ((ByteArray.toList (BE.ky x2) == ByteArray.toList k)) with c4 | c4
    · have h := h.1 c4
      exact loop_next [kt (decide_eq_true c1), ko (Orc.elem (enc x2)), kp hz0, kt c4, ko (Orc.hp (some 20) (AV.own 1 (List.length l - 1 + 1) 0 (List.length (l ++ [BE.mk (BE.ky x2) (BE.dv x2) (BE.sq x2) (BE.tm x2) (BE.vl x2)]))) [AObj.box [str (BE.ky x), int (BE.dv x), int (BE.sq x), int (BE.tm x), str (BE.vl x)], AObj.arr (List.length l - 1 + 1) 5 false (encs (l ++ [BE.mk (BE.ky x2) (BE.dv x2) (BE.sq x2) (BE.tm x2) (BE.vl x2)])), AObj.box [str (BE.ky x2), int (BE.dv x2), int (BE.sq x2), int (BE.tm x2), str (BE.vl x2)]]), kp (show Am.Sub (AV.own 1 (List.length l - 1 + 1) 0 (List.length l + 1)) (AV.own 1 (List.length l - 1 + 1) 0 (List.length (l ++ [BE.mk (BE.ky x2) (BE.dv x2) (BE.sq x2) (BE.tm x2) (BE.vl x2)]))) from (Sub.of_eq (by simp [Go.Bd.encs_length, Go.Bd.encs_ids]))), kp (show Am.HSub [AObj.box [str (BE.ky x), int (BE.dv x), int (BE.sq x), int (BE.tm x), str (BE.vl x)], AObj.arr (List.length l - 1 + 1) 5 false (encs l ++ [[str (BE.ky x2), int (BE.dv x2), int (BE.sq x2), int (BE.tm x2), str (BE.vl x2)]]), AObj.box [str (BE.ky x2), int (BE.dv x2), int (BE.sq x2), int (BE.tm x2), str (BE.vl x2)]] [AObj.box [str (BE.ky x), int (BE.dv x), int (BE.sq x), int (BE.tm x), str (BE.vl x)], AObj.arr (List.length l - 1 + 1) 5 false (encs (l ++ [BE.mk (BE.ky x2) (BE.dv x2) (BE.sq x2) (BE.tm x2) (BE.vl x2)])), AObj.box [str (BE.ky x2), int (BE.dv x2), int (BE.sq x2), int (BE.tm x2), str (BE.vl x2)]] from (⟨.inl rfl, .inl (by simp only [Go.Bd.encs_append, Go.Bd.encs_mk]), .inl rfl, trivial⟩)), kp (show List.length l - 1 = List.length l - 1 from (rfl)), kp (show List.length l = List.length (encs l) from ((Go.Bd.encs_length _).symm)), kp (show (List.length l + 1) * 56 ≤ 140737488355328 from (by omega)), kv 21 (show Am.Sub (int (IntKind.wrap IntKind.i64 ((↑i : Int) + 1))) (int (↑(i + 1) : Int)) from (Sub.of_wrap (by omega) (by omega) (by omega))), kp (show ∀ (x : List AV), x ∈ encs (l ++ [BE.mk (BE.ky x2) (BE.dv x2) (BE.sq x2) (BE.tm x2) (BE.vl x2)]) → AV.idsInL [] x = true from (Go.Bd.encs_ids _))] (others 25 [1, 4, 7, 8, 9]) 2 h (by kernel_rfl)
    · have h := h.2 c4
      exact loop_next [kt (decide_eq_true c1), ko (Orc.elem (enc x2)), kp hz0, kf c4, kv 21 (show Am.Sub (int (IntKind.wrap IntKind.i64 ((↑i : Int) + 1))) (int (↑(i + 1) : Int)) from (Sub.of_wrap (by omega) (by omega) (by omega))), kp (show ∀ (x : List AV), x ∈ encs l → AV.idsInL [] x = true from (Go.Bd.encs_ids _))] (others 25 [1, 4, 7, 8, 9]) 2 h (by kernel_rfl)
  · have h := h.2 c1
    obtain ⟨eX, eS⟩ := h
    exact RunL.to ((show RunL P G none 0 (loopAt P 10 0) (va1 v k i x l) (AEx.exit 0) (St.mk (slots 25 [(4, AV.own 1 (List.length l - 1) 0 (List.length l))]) [AObj.box [str (BE.ky x), int (BE.dv x), int (BE.sq x), int (BE.tm x), str (BE.vl x)], AObj.arr (List.length l - 1) 5 false (encs l)] []) from loop_exit [kf (decide_eq_false c1)] (others 25 [4]) 2 (by kernel_rfl))) eX (SubS.of_eq eS)

def fil (k : ByteArray) (v : List BE) : List BE := v.filter fun b => decide (b.ky = k)
theorem fil_cons (k : ByteArray) (b : BE) (v : List BE) : fil k (b :: v) = (if b.ky = k then [b] else []) ++ fil k v := by
  by_cases h : b.ky = k <;> simp [fil, h]
theorem fil_len (k : ByteArray) (v : List BE) : (fil k v).length ≤ v.length := List.length_filter_le _ _

theorem va_loop1 (v : List BE) (k : ByteArray) (x : BE) (hv : v.length ≤ 10000000) : ∀ n i (l : List BE), v.length - i = n → l ≠ [] → l.length ≤ i → i ≤ v.length → RunL P G none 0 (loopAt P 10 0) (va1 v k i x l) (.exit 0) (vaF x (l ++ fil k (v.drop i))) := by
  intro n
  induction n with
  | zero =>
    intro i l hn hl hlk hk
    refine va1_w v k i x l (by omega) (by omega) _ _ ⟨fun h => absurd h (by omega), fun _ => ⟨rfl, ?_⟩⟩
    rw [List.drop_eq_nil_of_le (by omega)]
    simp [vaF, fil, hl, enc]
  | succ n ih =>
    intro i l hn hl hlk hk
    have hlt : i < v.length := by omega
    have hx : v[i]? = some v[i] := List.getElem?_eq_getElem hlt
    have e : l.length - 1 + 1 = (l ++ [v[i]]).length - 1 := by
      have := List.length_pos_iff.2 hl
      rw [List.length_append, List.length_singleton]; omega
    have nx := ih (i + 1) (l ++ [v[i]]) (by omega) (by simp) (by rw [List.length_append, List.length_singleton]; omega) (by omega)
    rw [List.append_assoc] at nx
    rw [List.drop_eq_getElem_cons hlt, fil_cons]
    refine va1_w v k i x l (by omega) (by omega) _ _ ⟨fun h => ⟨v[i], hx, ⟨fun hq => ?_, fun hq => ?_⟩⟩, fun h => absurd hlt (by omega)⟩
    · rw [str_eq, decide_eq_true_iff] at hq
      rw [if_pos hq, e]; exact nx
    · rw [str_eq, decide_eq_false_iff_not] at hq
      rw [if_neg hq, List.nil_append]; exact ih (i + 1) l (by omega) hl (by omega) (by omega)
theorem va_loop0 (v : List BE) (k : ByteArray) (hv : v.length ≤ 10000000) : ∀ n i, v.length - i = n → i ≤ v.length → ∃ x, RunL P G none 0 (loopAt P 10 0) (va0 v k i) (.exit 0) (vaF x (fil k (v.drop i))) := by
  intro n
  induction n with
  | zero =>
    intro i hn hk
    refine ⟨⟨.empty, 0, 0, 0, .empty⟩, va0_w v k i (by omega) _ _ ⟨fun h => absurd h (by omega), fun _ => ⟨rfl, ?_⟩⟩⟩
    rw [List.drop_eq_nil_of_le (by omega)]
    simp [vaF, fil]
  | succ n ih =>
    intro i hn hk
    have hlt : i < v.length := by omega
    have hx : v[i]? = some v[i] := List.getElem?_eq_getElem hlt
    rw [List.drop_eq_getElem_cons hlt, fil_cons]
    by_cases hq : v[i].ky = k
    · refine ⟨v[i], va0_w v k i (by omega) _ _ ⟨fun _ => ⟨v[i], hx, ⟨fun _ => ?_, fun h => ?_⟩⟩, fun h => absurd hlt (by omega)⟩⟩
      · rw [if_pos hq]
        exact va_loop1 v k v[i] hv n (i + 1) [v[i]] (by omega) (by simp) (by simp) (by omega)
      · rw [str_eq, decide_eq_false_iff_not] at h; exact absurd hq h
    · obtain ⟨x, h⟩ := ih (i + 1) (by omega) (by omega)
      refine ⟨x, va0_w v k i (by omega) _ _ ⟨fun _ => ⟨v[i], hx, ⟨fun h' => ?_, fun _ => ?_⟩⟩, fun h => absurd hlt (by omega)⟩⟩
      · rw [str_eq, decide_eq_true_iff] at h'; exact absurd h' hq
      · rw [if_neg hq, List.nil_append]; exact h

theorem vals_n (v : List BE) (k : ByteArray) (h0 : CallC P G 25 [nilS, cvF] [] (.ret (.tup [])) []) (hL : RunL P G none 0 (loopAt P 10 0) (va0 v k 0) (.exit 0) { env := slots 25 [(4, nilS)], H := [] }) (h : True) : CallC P G 10 [bes v, str k] [] (AOut.ret nilS) [] := by
  have _ := h
  exact callC_of [kv 8 (show Am.Sub (int (↑(List.length (encs v)) : Int)) (int (↑(List.length v) : Int)) from (Sub.of_eq (by simp only [Go.Bd.encs_length]))), kl [0, 2, 3, 5, 6, 10, 11, 12, 13, 14, 15, 16, 17, 18, 19, 20, 21, 22, 23, 24] 0 (@hL ), kc [] (@h0 )] (by kernel_rfl)

theorem vals_w (v : List BE) (k : ByteArray) (x : BE) (t z : List BE) (hz : z.length = t.length) (h0 : CallC P G 25 [.own 0 (t.length - 1) 0 t.length, cvF] [.arr (t.length - 1) 5 false (encs t)] (.ret (.tup [])) [.arr (t.length - 1) 5 false (encs z)]) (hL : RunL P G none 0 (loopAt P 10 0) (va0 v k 0) (.exit 0) { env := slots 25 [(4, .own 1 (t.length - 1) 0 t.length)], H := [.box (enc x), .arr (t.length - 1) 5 false (encs t)] }) (h : True) : CallC P G 10 [bes v, str k] [] (AOut.ret (bes z)) [] := by
  have _ := h
  exact callC_of [kv 8 (show Am.Sub (int (↑(List.length (encs v)) : Int)) (int (↑(List.length v) : Int)) from (Sub.of_eq (by simp only [Go.Bd.encs_length]))), kl [0, 2, 3, 5, 6, 10, 11, 12, 13, 14, 15, 16, 17, 18, 19, 20, 21, 22, 23, 24] 0 (@hL ), kc [1] (@h0 ), ko (Orc.frz (encs z)), kp (show ∀ (x : List AV), x ∈ encs z → AV.idsInL [] x = true from (Go.Bd.encs_ids _)), kp (show ∀ (x : List AV), x ∈ encs t → AV.idsInL [] x = true from (Go.Bd.encs_ids _)), kp (show List.length t - 1 = List.length t - 1 from (rfl)), kp (show List.take (List.length t) (List.drop 0 (encs z)) = encs z from (by rw [List.drop_zero, List.take_of_length_le (by simp only [List.length_append, List.length_cons, List.length_nil, List.length_map, Go.Bd.encs_length, Go.Bd.encs_pure, Go.Bd.encs_ids] <;> omega)])), kp (show List.length (encs z) = List.length t from (by simp only [List.length_append, List.length_cons, List.length_nil, List.length_map, Go.Bd.encs_length, Go.Bd.encs_pure, Go.Bd.encs_ids] <;> omega)), kp (show ∀ (c : List AV), c ∈ encs z → List.all c AV.pureB = true from (Go.Bd.encs_pure _))] (by kernel_rfl)

theorem srt_len : ∀ (r l : List BE), (srt l r).length = l.length + r.length
  | [], l => rfl
  | a :: r, l => by rw [srt, srt_len r, mv_len, List.length_reverse, List.length_cons]; omega
theorem vals_c (v : List BE) (k : ByteArray) (hv : v.length ≤ 20) : CallC P G 10 [bes v, str k] [] (.ret (bes (srt [] (fil k v)))) [] := by
  obtain ⟨x, h⟩ := va_loop0 v k (by omega) v.length 0 (by omega) (by omega)
  rw [List.drop_zero] at h
  have hf := fil_len k v
  by_cases he : fil k v = []
  · rw [he] at h ⊢
    exact (vals_n v k ssortz_c h trivial).out (.nil 5)
  · have h' : RunL P G none 0 (loopAt P 10 0) (va0 v k 0) (.exit 0) { env := slots 25 [(4, .own 1 ((fil k v).length - 1) 0 (fil k v).length)], H := [.box (enc x), .arr ((fil k v).length - 1) 5 false (encs (fil k v))] } := by
      have := h
      rw [vaF, if_neg he, if_neg he] at this
      exact this
    exact vals_w v k x (fil k v) _ (by rw [srt_len]; simp) (ssort_c (fil k v) _ (by omega) he) h' trivial

end Go.Bd
