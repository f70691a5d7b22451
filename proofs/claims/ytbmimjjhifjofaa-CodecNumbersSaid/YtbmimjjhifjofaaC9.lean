/- CODEC, 9: Same in both packages; the reference's Encode and Size. -/
import Derived.KernelRfl
import Derived.Test.YtbmimjjhifjofaaC8
namespace Go.Cdc
set_option linter.unusedSimpArgs false
set_option linter.unusedVariables false
open Go Go.Am Go.Proofs

mutual
/-- Equal values. -/
def sm : CV → CV → Bool
  | .mk k n s l, .mk k' n' s' l' => decide (k = k') && decide (n = n') && decide (s = s') && smL l l'
def smL : List CV → List CV → Bool
  | [], [] => true
  | a :: l, b :: m => sm a b && smL l m
  | [], _ :: _ => false
  | _ :: _, [] => false
end
abbrev sameFn : AV := .lit (.func (.func 20) #[] #[])

theorem eqf_ne_p1 (l : List CV) (m : List CV) : runF P G 31 [AV.sl 4 false (encL l), AV.sl 4 false (encL m), sameFn] [] [Orc.val (some 11) (int (↑(List.length l) : Int)), Orc.val (some 13) (int (↑(List.length m) : Int)), Orc.br true] =
    some (AOut.ret (Am.bool false), [], [Am.Sub (int (↑(List.length (encL l)) : Int)) (int (↑(List.length l) : Int)), Am.Sub (int (↑(List.length (encL m)) : Int)) (int (↑(List.length m) : Int)), ((↑(List.length l) : Int) != (↑(List.length m) : Int)) = true]) := by kernel_rfl

theorem eqf_ne (l m : List CV) (hn : l.length ≠ m.length) (h : True) : CallC P G 31 [AV.sl 4 false (encL l), AV.sl 4 false (encL m), sameFn] [] (AOut.ret (Am.bool false)) [] := by
  have _ := h
  exact callC_of_run _ (eqf_ne_p1 l m) ⟨Sub.of_eq (by simp only [Go.Cdc.encL_length]), Sub.of_eq (by simp only [Go.Cdc.encL_length]), (congrArg Bool.not (decide_eq_false (by omega))), trivial⟩


def eqSt (l m : List CV) (i : Nat) : St := { env := slots 32 [(1, .sl 4 false (encL m)), (2, sameFn), (6, bool false), (15, .sl 4 false (encL l)), (16, int l.length), (17, int i)], H := [] }

theorem eq_end_p1 (l : List CV) (m : List CV) (i : Nat) : loopExit P G none 0 (loopAt P 31 0) (eqSt l m i) [Orc.br false] (others 32 [6]) 0 =
    some (AEx.exit 0, { env := slots 32 [(6, Am.bool false)], H := [] }, [decide ((↑i : Int) < (↑(List.length l) : Int)) = false]) := by kernel_rfl

theorem eq_end (l m : List CV) (i : Nat) (hi : l.length ≤ i) (h : True) : RunL P G none 0 (loopAt P 31 0) (eqSt l m i) (AEx.exit 0) { env := slots 32 [(6, Am.bool false)], H := [] } := by
  have _ := h
  exact RunL.exit _ _ _ (eq_end_p1 l m i) ⟨(decide_eq_false (by omega)), trivial⟩


theorem eq_step_p1 (l : List CV) (m : List CV) (i : Nat) (a : CV) (b : CV) (c : Bool) : loopStep P G none 0 (loopAt P 31 0) (eqSt l m i) [Orc.br true, Orc.elem (enc a), Orc.elem (enc b), Orc.call [] (AOut.ret (Am.bool c)) [], Orc.br false, Orc.val (some 31) (int (↑(i + 1) : Int))] (others 32 [1, 2, 6, 15, 16, 17]) 0 =
    some ({ env := slots 32 [(1, AV.sl 4 false (encL m)), (2, AV.lit (Value.func (Fn.func 20) { toList := [] } { toList := [] })), (6, Am.bool false), (15, AV.sl 4 false (encL l)), (16, int (↑(List.length l) : Int)), (17, int (↑(i + 1) : Int))], H := [] }, [decide ((↑i : Int) < (↑(List.length l) : Int)) = true, (0 : Int) ≤ (↑i : Int) ∧ (encL l)[Int.toNat (↑i : Int)]? = some (enc a), (0 : Int) ≤ (↑i : Int) ∧ (encL m)[Int.toNat (↑i : Int)]? = some (enc b), CallC P G 20 [AV.agg [int (CV.k a), int (CV.n a), str (CV.s a), AV.sl 4 false (encL (CV.l a))], AV.agg [int (CV.k b), int (CV.n b), str (CV.s b), AV.sl 4 false (encL (CV.l b))]] [] (AOut.ret (Am.bool c)) [], (!c) = false, Am.Sub (int (IntKind.wrap IntKind.i64 ((↑i : Int) + 1))) (int (↑(i + 1) : Int))]) := by kernel_rfl

theorem eq_step_p2 (l : List CV) (m : List CV) (i : Nat) (a : CV) (b : CV) (c : Bool) : loopExit P G none 0 (loopAt P 31 0) (eqSt l m i) [Orc.br true, Orc.elem (enc a), Orc.elem (enc b), Orc.call [] (AOut.ret (Am.bool c)) [], Orc.br true] (others 32 [6]) 0 =
    some (AEx.ret, { env := slots 32 [(6, Am.bool false)], H := [] }, [decide ((↑i : Int) < (↑(List.length l) : Int)) = true, (0 : Int) ≤ (↑i : Int) ∧ (encL l)[Int.toNat (↑i : Int)]? = some (enc a), (0 : Int) ≤ (↑i : Int) ∧ (encL m)[Int.toNat (↑i : Int)]? = some (enc b), CallC P G 20 [AV.agg [int (CV.k a), int (CV.n a), str (CV.s a), AV.sl 4 false (encL (CV.l a))], AV.agg [int (CV.k b), int (CV.n b), str (CV.s b), AV.sl 4 false (encL (CV.l b))]] [] (AOut.ret (Am.bool c)) [], (!c) = true]) := by kernel_rfl

theorem eq_step (l m : List CV) (i : Nat) (a b : CV) (c : Bool) (hi : i < l.length) (hl : l.length ≤ 9223372036854775807) (ha : l[i]? = some a) (hb : m[i]? = some b) (hv : CallC P G 20 [val a, val b] [] (.ret (bool c)) []) (ex : AEx) (h : ((((c) = true) → RunL P G none 0 (loopAt P 31 0) { env := slots 32 [(1, AV.sl 4 false (encL m)), (2, AV.lit (Value.func (Fn.func 20) { toList := [] } { toList := [] })), (6, Am.bool false), (15, AV.sl 4 false (encL l)), (16, int (↑(List.length l) : Int)), (17, int (↑(i + 1) : Int))], H := [] } ex { env := slots 32 [(6, Am.bool false)], H := [] }) ∧ (((c) = false) → AEx.ret = ex))) : RunL P G none 0 (loopAt P 31 0) (eqSt l m i) ex { env := slots 32 [(6, Am.bool false)], H := [] } := by
  rcases Bool.eq_false_or_eq_true ((c)) with c2 | c2
  · have h := h.1 c2
    exact RunL.next _ _ _ (eq_step_p1 l m i a b c) ⟨(decide_eq_true (by omega)), (by rw [Go.Cdc.encL_map]; exact el_nat ha), (by rw [Go.Cdc.encL_map]; exact el_nat hb), (@hv ), (congrArg Bool.not (c2)), Sub.of_wrap (by omega) (by omega) (by omega), trivial⟩ h
  · have h := h.2 c2
    have eX := h
    exact RunL.to (RunL.exit _ _ _ (eq_step_p2 l m i a b c) ⟨(decide_eq_true (by omega)), (by rw [Go.Cdc.encL_map]; exact el_nat ha), (by rw [Go.Cdc.encL_map]; exact el_nat hb), (@hv ), (congrArg Bool.not (c2)), trivial⟩) eX (SubS.of_eq rfl)


theorem eqf_w_p1 (l : List CV) (m : List CV) : runF P G 31 [AV.sl 4 false (encL l), AV.sl 4 false (encL m), sameFn] [] [Orc.val (some 11) (int (↑(List.length l) : Int)), Orc.val (some 13) (int (↑(List.length m) : Int)), Orc.br false, Orc.val (some 16) (int (↑(List.length l) : Int)), Orc.loop [0, 3, 4, 5, 7, 8, 9, 10, 11, 12, 13, 14, 18, 19, 20, 21, 22, 23, 24, 25, 26, 27, 28, 29, 30, 31] 0 (AEx.exit 0) [AV.dead, AV.dead, AV.dead, AV.dead, AV.dead, AV.dead, Am.bool false, AV.dead, AV.dead, AV.dead, AV.dead, AV.dead, AV.dead, AV.dead, AV.dead, AV.dead, AV.dead, AV.dead, AV.dead, AV.dead, AV.dead, AV.dead, AV.dead, AV.dead, AV.dead, AV.dead, AV.dead, AV.dead, AV.dead, AV.dead, AV.dead, AV.dead] []] =
    some (AOut.ret (Am.bool true), [], [Am.Sub (int (↑(List.length (encL l)) : Int)) (int (↑(List.length l) : Int)), Am.Sub (int (↑(List.length (encL m)) : Int)) (int (↑(List.length m) : Int)), ((↑(List.length l) : Int) != (↑(List.length m) : Int)) = false, Am.Sub (int (↑(List.length (encL l)) : Int)) (int (↑(List.length l) : Int)), RunL P G none 0 (loopAt P 31 0) { env := slots 32 [(1, AV.sl 4 false (encL m)), (2, AV.lit (Value.func (Fn.func 20) { toList := [] } { toList := [] })), (6, Am.bool false), (15, AV.sl 4 false (encL l)), (16, int (↑(List.length l) : Int)), (17, int 0)], H := [] } (AEx.exit 0) { env := slots 32 [(6, Am.bool false)], H := [] }]) := by kernel_rfl

theorem eqf_w_p2 (l : List CV) (m : List CV) : runF P G 31 [AV.sl 4 false (encL l), AV.sl 4 false (encL m), sameFn] [] [Orc.val (some 11) (int (↑(List.length l) : Int)), Orc.val (some 13) (int (↑(List.length m) : Int)), Orc.br false, Orc.val (some 16) (int (↑(List.length l) : Int)), Orc.loop [0, 3, 4, 5, 7, 8, 9, 10, 11, 12, 13, 14, 18, 19, 20, 21, 22, 23, 24, 25, 26, 27, 28, 29, 30, 31] 0 AEx.ret [AV.dead, AV.dead, AV.dead, AV.dead, AV.dead, AV.dead, Am.bool false, AV.dead, AV.dead, AV.dead, AV.dead, AV.dead, AV.dead, AV.dead, AV.dead, AV.dead, AV.dead, AV.dead, AV.dead, AV.dead, AV.dead, AV.dead, AV.dead, AV.dead, AV.dead, AV.dead, AV.dead, AV.dead, AV.dead, AV.dead, AV.dead, AV.dead] []] =
    some (AOut.ret (Am.bool false), [], [Am.Sub (int (↑(List.length (encL l)) : Int)) (int (↑(List.length l) : Int)), Am.Sub (int (↑(List.length (encL m)) : Int)) (int (↑(List.length m) : Int)), ((↑(List.length l) : Int) != (↑(List.length m) : Int)) = false, Am.Sub (int (↑(List.length (encL l)) : Int)) (int (↑(List.length l) : Int)), RunL P G none 0 (loopAt P 31 0) { env := slots 32 [(1, AV.sl 4 false (encL m)), (2, AV.lit (Value.func (Fn.func 20) { toList := [] } { toList := [] })), (6, Am.bool false), (15, AV.sl 4 false (encL l)), (16, int (↑(List.length l) : Int)), (17, int 0)], H := [] } AEx.ret { env := slots 32 [(6, Am.bool false)], H := [] }]) := by kernel_rfl

theorem eqf_w (l m : List CV) (hn : l.length = m.length) (c b : Bool) (hL : RunL P G none 0 (loopAt P 31 0) (eqSt l m 0) (if c = true then .exit 0 else .ret) { env := slots 32 [(6, bool false)], H := [] }) (h : (((c = true) → (true) = (b)) ∧ ((¬c = true) → (false) = (b)))) : CallC P G 31 [AV.sl 4 false (encL l), AV.sl 4 false (encL m), sameFn] [] (AOut.ret (Am.bool b)) [] := by
  by_cases c2 : (c = true)
  · have h := h.1 c2
    have e1 := h
    exact CallC.out (callC_of_run _ (eqf_w_p1 l m) ⟨Sub.of_eq (by simp only [Go.Cdc.encL_length]), Sub.of_eq (by simp only [Go.Cdc.encL_length]), (congrArg Bool.not (decide_eq_true (by omega))), Sub.of_eq (by simp only [Go.Cdc.encL_length]), (by have h0 := (@hL ); simp only [if_pos c2] at h0; exact h0), trivial⟩) (Sub.bool_eq e1)
  · have h := h.2 c2
    have e1 := h
    exact CallC.out (callC_of_run _ (eqf_w_p2 l m) ⟨Sub.of_eq (by simp only [Go.Cdc.encL_length]), Sub.of_eq (by simp only [Go.Cdc.encL_length]), (congrArg Bool.not (decide_eq_true (by omega))), Sub.of_eq (by simp only [Go.Cdc.encL_length]), (by have h0 := (@hL ); simp only [if_neg c2] at h0; exact h0), trivial⟩) (Sub.bool_eq e1)


theorem same_w_p1 (k : Int) (n : Int) (k' : Int) (n' : Int) (s : ByteArray) (s' : ByteArray) (l : List CV) (l' : List CV) (r : Bool) : runF P G 20 [vmk k n s l, vmk k' n' s' l'] [] [Orc.br true, Orc.br true, Orc.val (some 22) (Am.bool (decide (s = s'))), Orc.br true, Orc.call [] (AOut.ret (Am.bool r)) []] =
    some (AOut.ret (Am.bool r), [], [(k == k') = true, (n == n') = true, Am.Sub (Am.bool (ByteArray.toList s == ByteArray.toList s')) (Am.bool (decide (s = s'))), decide (s = s') = true, CallC P G 31 [AV.sl 4 false (encL l), AV.sl 4 false (encL l'), AV.lit (Value.func (Fn.func 20) { toList := [] } { toList := [] })] [] (AOut.ret (Am.bool r)) []]) := by kernel_rfl

theorem same_w_p2 (k : Int) (n : Int) (k' : Int) (n' : Int) (s : ByteArray) (s' : ByteArray) (l : List CV) (l' : List CV) : runF P G 20 [vmk k n s l, vmk k' n' s' l'] [] [Orc.br true, Orc.br true, Orc.val (some 22) (Am.bool (decide (s = s'))), Orc.br false] =
    some (AOut.ret (Am.bool false), [], [(k == k') = true, (n == n') = true, Am.Sub (Am.bool (ByteArray.toList s == ByteArray.toList s')) (Am.bool (decide (s = s'))), decide (s = s') = false]) := by kernel_rfl

theorem same_w_p3 (k : Int) (n : Int) (k' : Int) (n' : Int) (s : ByteArray) (s' : ByteArray) (l : List CV) (l' : List CV) : runF P G 20 [vmk k n s l, vmk k' n' s' l'] [] [Orc.br true, Orc.br false, Orc.br false] =
    some (AOut.ret (Am.bool false), [], [(k == k') = true, (n == n') = false, false = false]) := by kernel_rfl

theorem same_w_p4 (k : Int) (n : Int) (k' : Int) (n' : Int) (s : ByteArray) (s' : ByteArray) (l : List CV) (l' : List CV) : runF P G 20 [vmk k n s l, vmk k' n' s' l'] [] [Orc.br false, Orc.br false, Orc.br false] =
    some (AOut.ret (Am.bool false), [], [(k == k') = false, false = false, false = false]) := by kernel_rfl

theorem same_w (k n k' n' : Int) (s s' : ByteArray) (l l' : List CV) (r b : Bool) (hv : CallC P G 31 [.sl 4 false (encL l), .sl 4 false (encL l'), sameFn] [] (.ret (bool r)) []) (h : (((k = k') → (((n = n') → (((s = s') → (r) = (b)) ∧ ((¬s = s') → (false) = (b)))) ∧ ((¬n = n') → (false) = (b)))) ∧ ((¬k = k') → (false) = (b)))) : CallC P G 20 [vmk k n s l, vmk k' n' s' l'] [] (AOut.ret (Am.bool b)) [] := by
  by_cases c1 : (k = k')
  · have h := h.1 c1
    by_cases c2 : (n = n')
    · have h := h.1 c2
      by_cases c3 : (s = s')
      · have h := h.1 c3
        have e1 := h
        exact CallC.out (callC_of_run _ (same_w_p1 k n k' n' s s' l l' r) ⟨(beq_iff_eq.2 c1), (beq_iff_eq.2 c2), Sub.of_eq (by simp only [Go.Cdc.str_eq]), (decide_eq_true c3), (@hv ), trivial⟩) (Sub.bool_eq e1)
      · have h := h.2 c3
        have e1 := h
        exact CallC.out (callC_of_run _ (same_w_p2 k n k' n' s s' l l') ⟨(beq_iff_eq.2 c1), (beq_iff_eq.2 c2), Sub.of_eq (by simp only [Go.Cdc.str_eq]), (decide_eq_false c3), trivial⟩) (Sub.bool_eq e1)
    · have h := h.2 c2
      have e1 := h
      exact CallC.out (callC_of_run _ (same_w_p3 k n k' n' s s' l l') ⟨(beq_iff_eq.2 c1), (beq_eq_false_iff_ne.2 c2), (rfl), trivial⟩) (Sub.bool_eq e1)
  · have h := h.2 c1
    have e1 := h
    exact CallC.out (callC_of_run _ (same_w_p4 k n k' n' s s' l l') ⟨(beq_eq_false_iff_ne.2 c1), (rfl), (rfl), trivial⟩) (Sub.bool_eq e1)


theorem rsame_ne1_p1 (k : Int) (n : Int) (k' : Int) (n' : Int) (s : ByteArray) (s' : ByteArray) (l : List CV) (l' : List CV) : runF P G 16 [vmk k n s l, vmk k' n' s' l'] [] [Orc.br false, Orc.br false, Orc.val (some 23) (Am.bool !decide (s = s')), Orc.br false, Orc.val (some 28) (int (↑(List.length l) : Int)), Orc.val (some 31) (int (↑(List.length l') : Int)), Orc.br true] =
    some (AOut.ret (Am.bool false), [], [(k != k') = false, (n != n') = false, Am.Sub (Am.bool !ByteArray.toList s == ByteArray.toList s') (Am.bool !decide (s = s')), (!decide (s = s')) = false, Am.Sub (int (↑(List.length (encL l)) : Int)) (int (↑(List.length l) : Int)), Am.Sub (int (↑(List.length (encL l')) : Int)) (int (↑(List.length l') : Int)), ((↑(List.length l) : Int) != (↑(List.length l') : Int)) = true]) := by kernel_rfl

theorem rsame_ne1_p2 (k : Int) (n : Int) (k' : Int) (n' : Int) (s : ByteArray) (s' : ByteArray) (l : List CV) (l' : List CV) : runF P G 16 [vmk k n s l, vmk k' n' s' l'] [] [Orc.br false, Orc.br false, Orc.val (some 23) (Am.bool !decide (s = s')), Orc.br true, Orc.br true] =
    some (AOut.ret (Am.bool false), [], [(k != k') = false, (n != n') = false, Am.Sub (Am.bool !ByteArray.toList s == ByteArray.toList s') (Am.bool !decide (s = s')), (!decide (s = s')) = true, true = true]) := by kernel_rfl

theorem rsame_ne1_p3 (k : Int) (n : Int) (k' : Int) (n' : Int) (s : ByteArray) (s' : ByteArray) (l : List CV) (l' : List CV) : runF P G 16 [vmk k n s l, vmk k' n' s' l'] [] [Orc.br false, Orc.br true, Orc.br true, Orc.br true] =
    some (AOut.ret (Am.bool false), [], [(k != k') = false, (n != n') = true, true = true, true = true]) := by kernel_rfl

theorem rsame_ne1_p4 (k : Int) (n : Int) (k' : Int) (n' : Int) (s : ByteArray) (s' : ByteArray) (l : List CV) (l' : List CV) : runF P G 16 [vmk k n s l, vmk k' n' s' l'] [] [Orc.br true, Orc.br true, Orc.br true, Orc.br true] =
    some (AOut.ret (Am.bool false), [], [(k != k') = true, true = true, true = true, true = true]) := by kernel_rfl

theorem rsame_ne1 (k n k' n' : Int) (s s' : ByteArray) (l l' : List CV) (hn : ¬ (k = k' ∧ n = n' ∧ l.length = l'.length)) (h : (((k = k') → (((n = n') → (((s = s') → True) ∧ ((¬s = s') → True))) ∧ ((¬n = n') → True))) ∧ ((¬k = k') → True))) : CallC P G 16 [vmk k n s l, vmk k' n' s' l'] [] (AOut.ret (Am.bool false)) [] := by
  by_cases c1 : (k = k')
  · have h := h.1 c1
    by_cases c2 : (n = n')
    · have h := h.1 c2
      by_cases c3 : (s = s')
      · have h := h.1 c3
        have _ := h
        exact callC_of_run _ (rsame_ne1_p1 k n k' n' s s' l l') ⟨(congrArg Bool.not (beq_iff_eq.2 c1)), (congrArg Bool.not (beq_iff_eq.2 c2)), Sub.of_eq (by simp only [Go.Cdc.str_eq]), (congrArg Bool.not (decide_eq_true c3)), Sub.of_eq (by simp only [Go.Cdc.encL_length]), Sub.of_eq (by simp only [Go.Cdc.encL_length]), (congrArg Bool.not (decide_eq_false (by omega))), trivial⟩
      · have h := h.2 c3
        have _ := h
        exact callC_of_run _ (rsame_ne1_p2 k n k' n' s s' l l') ⟨(congrArg Bool.not (beq_iff_eq.2 c1)), (congrArg Bool.not (beq_iff_eq.2 c2)), Sub.of_eq (by simp only [Go.Cdc.str_eq]), (congrArg Bool.not (decide_eq_false c3)), (rfl), trivial⟩
    · have h := h.2 c2
      have _ := h
      exact callC_of_run _ (rsame_ne1_p3 k n k' n' s s' l l') ⟨(congrArg Bool.not (beq_iff_eq.2 c1)), (congrArg Bool.not (beq_eq_false_iff_ne.2 c2)), (rfl), (rfl), trivial⟩
  · have h := h.2 c1
    have _ := h
    exact callC_of_run _ (rsame_ne1_p4 k n k' n' s s' l l') ⟨(congrArg Bool.not (beq_eq_false_iff_ne.2 c1)), (rfl), (rfl), (rfl), trivial⟩


theorem rsame_ne2_p1 (k : Int) (n : Int) (k' : Int) (n' : Int) (s : ByteArray) (s' : ByteArray) (l : List CV) (l' : List CV) : runF P G 16 [vmk k n s l, vmk k' n' s' l'] [] [Orc.br false, Orc.br false, Orc.val (some 23) (Am.bool !decide (s = s')), Orc.br true, Orc.br true] =
    some (AOut.ret (Am.bool false), [], [(k != k') = false, (n != n') = false, Am.Sub (Am.bool !ByteArray.toList s == ByteArray.toList s') (Am.bool !decide (s = s')), (!decide (s = s')) = true, true = true]) := by kernel_rfl

theorem rsame_ne2_p2 (k : Int) (n : Int) (k' : Int) (n' : Int) (s : ByteArray) (s' : ByteArray) (l : List CV) (l' : List CV) : runF P G 16 [vmk k n s l, vmk k' n' s' l'] [] [Orc.br false, Orc.br true, Orc.br true, Orc.br true] =
    some (AOut.ret (Am.bool false), [], [(k != k') = false, (n != n') = true, true = true, true = true]) := by kernel_rfl

theorem rsame_ne2_p3 (k : Int) (n : Int) (k' : Int) (n' : Int) (s : ByteArray) (s' : ByteArray) (l : List CV) (l' : List CV) : runF P G 16 [vmk k n s l, vmk k' n' s' l'] [] [Orc.br true, Orc.br true, Orc.br true, Orc.br true] =
    some (AOut.ret (Am.bool false), [], [(k != k') = true, true = true, true = true, true = true]) := by kernel_rfl

theorem rsame_ne2 (k n k' n' : Int) (s s' : ByteArray) (l l' : List CV) (hs : decide (s = s') = false) (h : (((k = k') → (((n = n') → True) ∧ ((¬n = n') → True))) ∧ ((¬k = k') → True))) : CallC P G 16 [vmk k n s l, vmk k' n' s' l'] [] (AOut.ret (Am.bool false)) [] := by
  by_cases c1 : (k = k')
  · have h := h.1 c1
    by_cases c2 : (n = n')
    · have h := h.1 c2
      have _ := h
      exact callC_of_run _ (rsame_ne2_p1 k n k' n' s s' l l') ⟨(congrArg Bool.not (beq_iff_eq.2 c1)), (congrArg Bool.not (beq_iff_eq.2 c2)), Sub.of_eq (by simp only [Go.Cdc.str_eq]), (congrArg Bool.not (hs)), (rfl), trivial⟩
    · have h := h.2 c2
      have _ := h
      exact callC_of_run _ (rsame_ne2_p2 k n k' n' s s' l l') ⟨(congrArg Bool.not (beq_iff_eq.2 c1)), (congrArg Bool.not (beq_eq_false_iff_ne.2 c2)), (rfl), (rfl), trivial⟩
  · have h := h.2 c1
    have _ := h
    exact callC_of_run _ (rsame_ne2_p3 k n k' n' s s' l l') ⟨(congrArg Bool.not (beq_eq_false_iff_ne.2 c1)), (rfl), (rfl), (rfl), trivial⟩


def rsSt (k n : Int) (s : ByteArray) (l l' : List CV) (i : Nat) : St := { env := slots 53 [(2, .ptr 0 0), (3, .ptr 1 0), (4, bool false), (5, int i)], H := [.box [int k, int n, str s, .sl 4 false (encL l)], .box [int k, int n, str s, .sl 4 false (encL l')]] }

theorem rs_end_p1 (k : Int) (n : Int) (s : ByteArray) (l : List CV) (m : List CV) (i : Nat) : loopExit P G none 0 (loopAt P 16 0) (rsSt k n s l m i) [Orc.val (some 37) (int (↑(List.length l) : Int)), Orc.br false] (others 53 [4]) 2 =
    some (AEx.exit 0, { env := slots 53 [(4, Am.bool false)], H := [AObj.box [int k, int n, str s, AV.sl 4 false (encL l)], AObj.box [int k, int n, str s, AV.sl 4 false (encL m)]] }, [Am.Sub (int (↑(List.length (encL l)) : Int)) (int (↑(List.length l) : Int)), decide ((↑i : Int) < (↑(List.length l) : Int)) = false]) := by kernel_rfl

theorem rs_end (k n : Int) (s : ByteArray) (l m : List CV) (i : Nat) (hi : l.length ≤ i) (h : True) : RunL P G none 0 (loopAt P 16 0) (rsSt k n s l m i) (AEx.exit 0) { env := slots 53 [(4, Am.bool false)], H := [AObj.gone, AObj.gone] } := by
  have _ := h
  exact RunL.to (RunL.postH (RunL.exit _ _ _ (rs_end_p1 k n s l m i) ⟨Sub.of_eq (by simp only [Go.Cdc.encL_length]), (decide_eq_false (by omega)), trivial⟩) (by exact ⟨.inr trivial, .inr trivial, trivial⟩)) rfl (SubS.slots ⟨rfl, Sub.refl _, trivial⟩)


theorem rs_step_p1 (k : Int) (n : Int) (s : ByteArray) (l : List CV) (m : List CV) (i : Nat) (a : CV) (b : CV) (c : Bool) : loopStep P G none 0 (loopAt P 16 0) (rsSt k n s l m i) [Orc.val (some 37) (int (↑(List.length l) : Int)), Orc.br true, Orc.elem (enc a), Orc.elem (enc b), Orc.call [] (AOut.ret (Am.bool c)) [], Orc.br false, Orc.val (some 40) (int (↑(i + 1) : Int))] (others 53 [2, 3, 4, 5]) 2 =
    some ({ env := slots 53 [(2, AV.ptr 0 0), (3, AV.ptr 1 0), (4, Am.bool false), (5, int (↑(i + 1) : Int))], H := [AObj.box [int k, int n, str s, AV.sl 4 false (encL l)], AObj.box [int k, int n, str s, AV.sl 4 false (encL m)]] }, [Am.Sub (int (↑(List.length (encL l)) : Int)) (int (↑(List.length l) : Int)), decide ((↑i : Int) < (↑(List.length l) : Int)) = true, (0 : Int) ≤ (↑i : Int) ∧ (encL l)[Int.toNat (↑i : Int)]? = some (enc a), (0 : Int) ≤ (↑i : Int) ∧ (encL m)[Int.toNat (↑i : Int)]? = some (enc b), CallC P G 16 [AV.agg [int (CV.k a), int (CV.n a), str (CV.s a), AV.sl 4 false (encL (CV.l a))], AV.agg [int (CV.k b), int (CV.n b), str (CV.s b), AV.sl 4 false (encL (CV.l b))]] [] (AOut.ret (Am.bool c)) [], (!c) = false, Am.Sub (int (IntKind.wrap IntKind.i64 ((↑i : Int) + 1))) (int (↑(i + 1) : Int))]) := by kernel_rfl

theorem rs_step_p2 (k : Int) (n : Int) (s : ByteArray) (l : List CV) (m : List CV) (i : Nat) (a : CV) (b : CV) (c : Bool) : loopExit P G none 0 (loopAt P 16 0) (rsSt k n s l m i) [Orc.val (some 37) (int (↑(List.length l) : Int)), Orc.br true, Orc.elem (enc a), Orc.elem (enc b), Orc.call [] (AOut.ret (Am.bool c)) [], Orc.br true] (others 53 [4]) 2 =
    some (AEx.ret, { env := slots 53 [(4, Am.bool false)], H := [AObj.box [int k, int n, str s, AV.sl 4 false (encL l)], AObj.box [int k, int n, str s, AV.sl 4 false (encL m)]] }, [Am.Sub (int (↑(List.length (encL l)) : Int)) (int (↑(List.length l) : Int)), decide ((↑i : Int) < (↑(List.length l) : Int)) = true, (0 : Int) ≤ (↑i : Int) ∧ (encL l)[Int.toNat (↑i : Int)]? = some (enc a), (0 : Int) ≤ (↑i : Int) ∧ (encL m)[Int.toNat (↑i : Int)]? = some (enc b), CallC P G 16 [AV.agg [int (CV.k a), int (CV.n a), str (CV.s a), AV.sl 4 false (encL (CV.l a))], AV.agg [int (CV.k b), int (CV.n b), str (CV.s b), AV.sl 4 false (encL (CV.l b))]] [] (AOut.ret (Am.bool c)) [], (!c) = true]) := by kernel_rfl

theorem rs_step (k n : Int) (s : ByteArray) (l m : List CV) (i : Nat) (a b : CV) (c : Bool) (hi : i < l.length) (hl : l.length ≤ 9223372036854775807) (ha : l[i]? = some a) (hb : m[i]? = some b) (hv : CallC P G 16 [val a, val b] [] (.ret (bool c)) []) (ex : AEx) (h : ((((c) = true) → RunL P G none 0 (loopAt P 16 0) { env := slots 53 [(2, AV.ptr 0 0), (3, AV.ptr 1 0), (4, Am.bool false), (5, int (↑(i + 1) : Int))], H := [AObj.box [int k, int n, str s, AV.sl 4 false (encL l)], AObj.box [int k, int n, str s, AV.sl 4 false (encL m)]] } ex { env := slots 53 [(4, Am.bool false)], H := [AObj.gone, AObj.gone] }) ∧ (((c) = false) → AEx.ret = ex))) : RunL P G none 0 (loopAt P 16 0) (rsSt k n s l m i) ex { env := slots 53 [(4, Am.bool false)], H := [AObj.gone, AObj.gone] } := by
  rcases Bool.eq_false_or_eq_true ((c)) with c2 | c2
  · have h := h.1 c2
    exact RunL.next _ _ _ (rs_step_p1 k n s l m i a b c) ⟨Sub.of_eq (by simp only [Go.Cdc.encL_length]), (decide_eq_true (by omega)), (by rw [Go.Cdc.encL_map]; exact el_nat ha), (by rw [Go.Cdc.encL_map]; exact el_nat hb), (@hv ), (congrArg Bool.not (c2)), Sub.of_wrap (by omega) (by omega) (by omega), trivial⟩ h
  · have h := h.2 c2
    have eX := h
    exact RunL.to (RunL.postH (RunL.exit _ _ _ (rs_step_p2 k n s l m i a b c) ⟨Sub.of_eq (by simp only [Go.Cdc.encL_length]), (decide_eq_true (by omega)), (by rw [Go.Cdc.encL_map]; exact el_nat ha), (by rw [Go.Cdc.encL_map]; exact el_nat hb), (@hv ), (congrArg Bool.not (c2)), trivial⟩) (by exact ⟨.inr trivial, .inr trivial, trivial⟩)) eX (SubS.slots ⟨rfl, Sub.refl _, trivial⟩)


theorem rsame_w_p1 (k : Int) (n : Int) (s : ByteArray) (l : List CV) (m : List CV) : runF P G 16 [vmk k n s l, vmk k n s m] [] [Orc.br false, Orc.br false, Orc.val (some 23) (Am.bool !decide (s = s)), Orc.br false, Orc.val (some 28) (int (↑(List.length l) : Int)), Orc.val (some 31) (int (↑(List.length m) : Int)), Orc.br false, Orc.loop [0, 1, 6, 7, 8, 9, 10, 11, 12, 13, 14, 15, 16, 17, 18, 19, 20, 21, 22, 23, 24, 25, 26, 27, 28, 29, 30, 31, 32, 33, 34, 35, 36, 37, 38, 39, 40, 41, 42, 43, 44, 45, 46, 47, 48, 49, 50, 51, 52] 2 (AEx.exit 0) [AV.dead, AV.dead, AV.dead, AV.dead, Am.bool false, AV.dead, AV.dead, AV.dead, AV.dead, AV.dead, AV.dead, AV.dead, AV.dead, AV.dead, AV.dead, AV.dead, AV.dead, AV.dead, AV.dead, AV.dead, AV.dead, AV.dead, AV.dead, AV.dead, AV.dead, AV.dead, AV.dead, AV.dead, AV.dead, AV.dead, AV.dead, AV.dead, AV.dead, AV.dead, AV.dead, AV.dead, AV.dead, AV.dead, AV.dead, AV.dead, AV.dead, AV.dead, AV.dead, AV.dead, AV.dead, AV.dead, AV.dead, AV.dead, AV.dead, AV.dead, AV.dead, AV.dead, AV.dead] [AObj.gone, AObj.gone]] =
    some (AOut.ret (Am.bool true), [], [(k != k) = false, (n != n) = false, Am.Sub (Am.bool !ByteArray.toList s == ByteArray.toList s) (Am.bool !decide (s = s)), (!decide (s = s)) = false, Am.Sub (int (↑(List.length (encL l)) : Int)) (int (↑(List.length l) : Int)), Am.Sub (int (↑(List.length (encL m)) : Int)) (int (↑(List.length m) : Int)), ((↑(List.length l) : Int) != (↑(List.length m) : Int)) = false, RunL P G none 0 (loopAt P 16 0) { env := slots 53 [(2, AV.ptr 0 0), (3, AV.ptr 1 0), (4, Am.bool false), (5, int 0)], H := [AObj.box [int k, int n, str s, AV.sl 4 false (encL l)], AObj.box [int k, int n, str s, AV.sl 4 false (encL m)]] } (AEx.exit 0) { env := slots 53 [(4, Am.bool false)], H := [AObj.gone, AObj.gone] }]) := by kernel_rfl

theorem rsame_w_p2 (k : Int) (n : Int) (s : ByteArray) (l : List CV) (m : List CV) : runF P G 16 [vmk k n s l, vmk k n s m] [] [Orc.br false, Orc.br false, Orc.val (some 23) (Am.bool !decide (s = s)), Orc.br false, Orc.val (some 28) (int (↑(List.length l) : Int)), Orc.val (some 31) (int (↑(List.length m) : Int)), Orc.br false, Orc.loop [0, 1, 6, 7, 8, 9, 10, 11, 12, 13, 14, 15, 16, 17, 18, 19, 20, 21, 22, 23, 24, 25, 26, 27, 28, 29, 30, 31, 32, 33, 34, 35, 36, 37, 38, 39, 40, 41, 42, 43, 44, 45, 46, 47, 48, 49, 50, 51, 52] 2 AEx.ret [AV.dead, AV.dead, AV.dead, AV.dead, Am.bool false, AV.dead, AV.dead, AV.dead, AV.dead, AV.dead, AV.dead, AV.dead, AV.dead, AV.dead, AV.dead, AV.dead, AV.dead, AV.dead, AV.dead, AV.dead, AV.dead, AV.dead, AV.dead, AV.dead, AV.dead, AV.dead, AV.dead, AV.dead, AV.dead, AV.dead, AV.dead, AV.dead, AV.dead, AV.dead, AV.dead, AV.dead, AV.dead, AV.dead, AV.dead, AV.dead, AV.dead, AV.dead, AV.dead, AV.dead, AV.dead, AV.dead, AV.dead, AV.dead, AV.dead, AV.dead, AV.dead, AV.dead, AV.dead] [AObj.gone, AObj.gone]] =
    some (AOut.ret (Am.bool false), [], [(k != k) = false, (n != n) = false, Am.Sub (Am.bool !ByteArray.toList s == ByteArray.toList s) (Am.bool !decide (s = s)), (!decide (s = s)) = false, Am.Sub (int (↑(List.length (encL l)) : Int)) (int (↑(List.length l) : Int)), Am.Sub (int (↑(List.length (encL m)) : Int)) (int (↑(List.length m) : Int)), ((↑(List.length l) : Int) != (↑(List.length m) : Int)) = false, RunL P G none 0 (loopAt P 16 0) { env := slots 53 [(2, AV.ptr 0 0), (3, AV.ptr 1 0), (4, Am.bool false), (5, int 0)], H := [AObj.box [int k, int n, str s, AV.sl 4 false (encL l)], AObj.box [int k, int n, str s, AV.sl 4 false (encL m)]] } AEx.ret { env := slots 53 [(4, Am.bool false)], H := [AObj.gone, AObj.gone] }]) := by kernel_rfl

theorem rsame_w_p3 (k : Int) (n : Int) (s : ByteArray) (l : List CV) (m : List CV) : runF P G 16 [vmk k n s l, vmk k n s m] [] [Orc.br false, Orc.br false, Orc.val (some 23) (Am.bool !decide (s = s)), Orc.br true, Orc.br true] =
    some (AOut.ret (Am.bool false), [], [(k != k) = false, (n != n) = false, Am.Sub (Am.bool !ByteArray.toList s == ByteArray.toList s) (Am.bool !decide (s = s)), (!decide (s = s)) = true, true = true]) := by kernel_rfl

theorem rsame_w (k n : Int) (s : ByteArray) (l m : List CV) (hn : l.length = m.length) (c b : Bool) (hL : RunL P G none 0 (loopAt P 16 0) (rsSt k n s l m 0) (if c = true then .exit 0 else .ret) { env := slots 53 [(4, bool false)], H := [.gone, .gone] }) (h : (((s = s) → (((c = true) → (true) = (b)) ∧ ((¬c = true) → (false) = (b)))) ∧ ((¬s = s) → (false) = (b)))) : CallC P G 16 [vmk k n s l, vmk k n s m] [] (AOut.ret (Am.bool b)) [] := by
  by_cases c3 : (s = s)
  · have h := h.1 c3
    by_cases c5 : (c = true)
    · have h := h.1 c5
      have e1 := h
      exact CallC.out (callC_of_run _ (rsame_w_p1 k n s l m) ⟨(congrArg Bool.not (decide_eq_true (by omega))), (congrArg Bool.not (decide_eq_true (by omega))), Sub.of_eq (by simp only [Go.Cdc.str_eq]), (congrArg Bool.not (decide_eq_true c3)), Sub.of_eq (by simp only [Go.Cdc.encL_length]), Sub.of_eq (by simp only [Go.Cdc.encL_length]), (congrArg Bool.not (decide_eq_true (by omega))), (by have h0 := (@hL ); simp only [if_pos c5] at h0; exact h0), trivial⟩) (Sub.bool_eq e1)
    · have h := h.2 c5
      have e1 := h
      exact CallC.out (callC_of_run _ (rsame_w_p2 k n s l m) ⟨(congrArg Bool.not (decide_eq_true (by omega))), (congrArg Bool.not (decide_eq_true (by omega))), Sub.of_eq (by simp only [Go.Cdc.str_eq]), (congrArg Bool.not (decide_eq_true c3)), Sub.of_eq (by simp only [Go.Cdc.encL_length]), Sub.of_eq (by simp only [Go.Cdc.encL_length]), (congrArg Bool.not (decide_eq_true (by omega))), (by have h0 := (@hL ); simp only [if_neg c5] at h0; exact h0), trivial⟩) (Sub.bool_eq e1)
  · have h := h.2 c3
    have e1 := h
    exact CallC.out (callC_of_run _ (rsame_w_p3 k n s l m) ⟨(congrArg Bool.not (decide_eq_true (by omega))), (congrArg Bool.not (decide_eq_true (by omega))), Sub.of_eq (by simp only [Go.Cdc.str_eq]), (congrArg Bool.not (decide_eq_false c3)), (rfl), trivial⟩) (Sub.bool_eq e1)


theorem ren1_w_p1 (n : Int) (s : ByteArray) (l : List CV) : runF P G 23 [vmk 1 n s l] [] [Orc.br true, Orc.call [] (AOut.ret (u64 (uns n))) [], Orc.call [] (AOut.ret (byt (num (uns n)))) [], Orc.frz ([AV.lit (Value.int IntKind.u8 1)] :: bys (num (uns n)))] =
    some (AOut.ret (AV.sl 1 false ([AV.lit (Value.int IntKind.u8 1)] :: bys (num (uns n)))), [], [true = true, CallC P G 39 [int n] [] (AOut.ret (AV.lit (Value.int IntKind.u64 (↑(uns n) : Int)))) [], CallC P G 38 [AV.lit (Value.int IntKind.u64 (↑(uns n) : Int))] [] (AOut.ret (AV.sl 1 false (bys (num (uns n))))) [], bys (num (uns n)) ≠ [], (1 + List.length (bys (num (uns n)))) * 1 ≤ 140737488355328, 0 = 0, List.take (1 + List.length (bys (num (uns n)))) (List.drop 0 ([AV.lit (Value.int IntKind.u8 1)] :: bys (num (uns n)))) = [AV.lit (Value.int IntKind.u8 1)] :: bys (num (uns n)), List.length ([AV.lit (Value.int IntKind.u8 1)] :: bys (num (uns n))) = 1 + List.length (bys (num (uns n))), ∀ (c : List AV), c ∈ [AV.lit (Value.int IntKind.u8 1)] :: bys (num (uns n)) → List.all c AV.pureB = true]) := by kernel_rfl

theorem ren1_w (n : Int) (s : ByteArray) (l : List CV) (hn : -9223372036854775808 ≤ n ∧ n < 9223372036854775808) (hu : uns n < 18446744073709551616) (h0 : ¬ bys (num (uns n)) = []) (h : (((1 + List.length (bys (num (uns n)))) * 1 ≤ 140737488355328) ∧ True)) : CallC P G 23 [vmk 1 n s l] [] (AOut.ret (byt (1 :: num (uns n)))) [] := by
  obtain ⟨o1, h⟩ := h
  have _ := h
  exact callC_of_run _ (ren1_w_p1 n s l) ⟨(rfl), (@Go.Cdc.runs_c (n) (by omega)), (@Go.Cdc.rnumeral_c (uns n) (by omega)), h0, o1, (rfl), (by rw [List.drop_zero, List.take_of_length_le (by simp only [List.length_append, List.length_cons, List.length_nil, List.length_map, Go.Cdc.bys_length, Go.Cdc.bys_ids, Go.Cdc.bys_pure] <;> omega)]), (by simp only [List.length_append, List.length_cons, List.length_nil, List.length_map, Go.Cdc.bys_length, Go.Cdc.bys_ids, Go.Cdc.bys_pure] <;> omega), (by exact (Am.allm_cons rfl (Go.Cdc.bys_pure _))), trivial⟩


theorem ren2_w_p1 (n : Int) (s : ByteArray) (l : List CV) : runF P G 23 [vmk 2 n s l] [] [Orc.br false, Orc.br true, Orc.call [] (AOut.ret (byt (num (ByteArray.size s % 18446744073709551616)))) [], Orc.frz ([AV.lit (Value.int IntKind.u8 2)] :: bys (num (ByteArray.size s % 18446744073709551616)) ++ List.map (fun (c : UInt8) => [AV.lit (Value.int IntKind.u8 (↑(UInt8.toNat c) : Int))]) (Array.toList (ByteArray.data s)))] =
    some (AOut.ret (AV.sl 1 false ([AV.lit (Value.int IntKind.u8 2)] :: bys (num (ByteArray.size s % 18446744073709551616)) ++ List.map (fun (c : UInt8) => [AV.lit (Value.int IntKind.u8 (↑(UInt8.toNat c) : Int))]) (Array.toList (ByteArray.data s)))), [], [false = false, true = true, CallC P G 38 [AV.lit (Value.int IntKind.u64 (IntKind.wrap IntKind.u64 (↑(ByteArray.size s) : Int)))] [] (AOut.ret (AV.sl 1 false (bys (num (ByteArray.size s % 18446744073709551616))))) [], bys (num (ByteArray.size s % 18446744073709551616)) ≠ [], (1 + List.length (bys (num (ByteArray.size s % 18446744073709551616)))) * 1 ≤ 140737488355328, 0 = 0, 1 + List.length (bys (num (ByteArray.size s % 18446744073709551616))) = List.length ([AV.lit (Value.int IntKind.u8 2)] :: bys (num (ByteArray.size s % 18446744073709551616))), (1 + List.length (bys (num (ByteArray.size s % 18446744073709551616))) + List.length (List.map (fun (c : UInt8) => [AV.lit (Value.int IntKind.u8 (↑(UInt8.toNat c) : Int))]) (Array.toList (ByteArray.data s)))) * 1 ≤ 140737488355328, 1 = 1, List.take (1 + List.length (bys (num (ByteArray.size s % 18446744073709551616))) + List.length (List.map (fun (c : UInt8) => [AV.lit (Value.int IntKind.u8 (↑(UInt8.toNat c) : Int))]) (Array.toList (ByteArray.data s)))) (List.drop 0 ([AV.lit (Value.int IntKind.u8 2)] :: bys (num (ByteArray.size s % 18446744073709551616)) ++ List.map (fun (c : UInt8) => [AV.lit (Value.int IntKind.u8 (↑(UInt8.toNat c) : Int))]) (Array.toList (ByteArray.data s)))) = [AV.lit (Value.int IntKind.u8 2)] :: bys (num (ByteArray.size s % 18446744073709551616)) ++ List.map (fun (c : UInt8) => [AV.lit (Value.int IntKind.u8 (↑(UInt8.toNat c) : Int))]) (Array.toList (ByteArray.data s)), List.length ([AV.lit (Value.int IntKind.u8 2)] :: bys (num (ByteArray.size s % 18446744073709551616)) ++ List.map (fun (c : UInt8) => [AV.lit (Value.int IntKind.u8 (↑(UInt8.toNat c) : Int))]) (Array.toList (ByteArray.data s))) = 1 + List.length (bys (num (ByteArray.size s % 18446744073709551616))) + List.length (List.map (fun (c : UInt8) => [AV.lit (Value.int IntKind.u8 (↑(UInt8.toNat c) : Int))]) (Array.toList (ByteArray.data s))), ∀ (c : List AV), c ∈ [AV.lit (Value.int IntKind.u8 2)] :: bys (num (ByteArray.size s % 18446744073709551616)) ++ List.map (fun (c : UInt8) => [AV.lit (Value.int IntKind.u8 (↑(UInt8.toNat c) : Int))]) (Array.toList (ByteArray.data s)) → List.all c AV.pureB = true]) := by kernel_rfl

theorem ren2_w (n : Int) (s : ByteArray) (l : List CV) (hs : s.size ≤ 10000000) (h0 : ¬ bys (num (s.size % 18446744073709551616)) = []) (h : (((1 + List.length (bys (num (ByteArray.size s % 18446744073709551616)))) * 1 ≤ 140737488355328) ∧ (((1 + List.length (bys (num (ByteArray.size s % 18446744073709551616))) + List.length (List.map (fun (c : UInt8) => [AV.lit (Value.int IntKind.u8 (↑(UInt8.toNat c) : Int))]) (Array.toList (ByteArray.data s)))) * 1 ≤ 140737488355328) ∧ ([AV.lit (Value.int IntKind.u8 2)] :: bys (num (ByteArray.size s % 18446744073709551616)) ++ List.map (fun (c : UInt8) => [AV.lit (Value.int IntKind.u8 (↑(UInt8.toNat c) : Int))]) (Array.toList (ByteArray.data s))) = (bys (2 :: (num (ByteArray.size s) ++ Array.toList (ByteArray.data s))))))) : CallC P G 23 [vmk 2 n s l] [] (AOut.ret (byt (2 :: (num (ByteArray.size s) ++ Array.toList (ByteArray.data s))))) [] := by
  obtain ⟨o1, h⟩ := h
  obtain ⟨o2, h⟩ := h
  have e1 := h
  exact CallC.out (callC_of_run _ (ren2_w_p1 n s l) ⟨(rfl), (rfl), (@Go.Cdc.rnumeral_c (ByteArray.size s % 18446744073709551616) (by omega)), h0, o1, (rfl), (by simp only [List.length_append, List.length_cons, List.length_nil, List.length_map, Go.Cdc.bys_length, Go.Cdc.bys_ids, Go.Cdc.bys_pure, Go.Cdc.bdata_length, Go.Cdc.strB_ids, Go.Cdc.strB_pure] <;> omega), o2, (rfl), (by rw [List.drop_zero, List.take_of_length_le (by simp only [List.length_append, List.length_cons, List.length_nil, List.length_map, Go.Cdc.bys_length, Go.Cdc.bys_ids, Go.Cdc.bys_pure, Go.Cdc.bdata_length, Go.Cdc.strB_ids, Go.Cdc.strB_pure] <;> omega)]), (by simp only [List.length_append, List.length_cons, List.length_nil, List.length_map, Go.Cdc.bys_length, Go.Cdc.bys_ids, Go.Cdc.bys_pure, Go.Cdc.bdata_length, Go.Cdc.strB_ids, Go.Cdc.strB_pure] <;> omega), (by exact (Am.allm_append (Am.allm_cons rfl (Go.Cdc.bys_pure _)) (Go.Cdc.strB_pure _))), trivial⟩) (Sub.list_eq e1)


def reSt (k n : Int) (s : ByteArray) (l : List CV) (xs : List (List AV)) (N g : Nat) (i : Nat) : St := { env := slots 50 [(1, .ptr 0 0), (3, .own 1 g 0 N), (4, int i)], H := [.box [int k, int n, str s, .sl 4 false (encL l)], .arr g 1 false xs] }

theorem re_end_p1 (k : Int) (n : Int) (s : ByteArray) (l : List CV) (xs : List (List AV)) (N : Nat) (g : Nat) (i : Nat) : loopExit P G none 0 (loopAt P 23 0) (reSt k n s l xs N g i) [Orc.val (some 37) (int (↑(List.length l) : Int)), Orc.br false] (others 50 [3]) 2 =
    some (AEx.exit 1, { env := slots 50 [(3, AV.own 1 g 0 N)], H := [AObj.box [int k, int n, str s, AV.sl 4 false (encL l)], AObj.arr g 1 false xs] }, [Am.Sub (int (↑(List.length (encL l)) : Int)) (int (↑(List.length l) : Int)), decide ((↑i : Int) < (↑(List.length l) : Int)) = false]) := by kernel_rfl

theorem re_end (k n : Int) (s : ByteArray) (l : List CV) (xs : List (List AV)) (N g i : Nat) (hi : l.length ≤ i) (h : True) : RunL P G none 0 (loopAt P 23 0) (reSt k n s l xs N g i) (AEx.exit 1) { env := slots 50 [(3, AV.own 1 g 0 N)], H := [AObj.gone, AObj.arr g 1 false xs] } := by
  have _ := h
  exact RunL.to (RunL.postH (RunL.exit _ _ _ (re_end_p1 k n s l xs N g i) ⟨Sub.of_eq (by simp only [Go.Cdc.encL_length]), (decide_eq_false (by omega)), trivial⟩) (by exact ⟨.inr trivial, .inl rfl, trivial⟩)) rfl (SubS.slots ⟨rfl, Sub.refl _, trivial⟩)


theorem re_step_p1 (k : Int) (n : Int) (s : ByteArray) (l : List CV) (xs : List (List AV)) (N : Nat) (g : Nat) (i : Nat) (x : CV) (b : List UInt8) : loopStep P G none 0 (loopAt P 23 0) (reSt k n s l xs N g i) [Orc.val (some 37) (int (↑(List.length l) : Int)), Orc.br true, Orc.elem (enc x), Orc.call [] (AOut.ret (byt b)) [], Orc.val (some 40) (int (↑(i + 1) : Int))] (others 50 [1, 3, 4]) 2 =
    some ({ env := slots 50 [(1, AV.ptr 0 0), (3, AV.own 1 (g + 1) 0 (N + List.length (bys b))), (4, int (↑(i + 1) : Int))], H := [AObj.box [int k, int n, str s, AV.sl 4 false (encL l)], AObj.arr (g + 1) 1 false (xs ++ bys b)] }, [Am.Sub (int (↑(List.length (encL l)) : Int)) (int (↑(List.length l) : Int)), decide ((↑i : Int) < (↑(List.length l) : Int)) = true, (0 : Int) ≤ (↑i : Int) ∧ (encL l)[Int.toNat (↑i : Int)]? = some (enc x), CallC P G 23 [AV.agg [int (CV.k x), int (CV.n x), str (CV.s x), AV.sl 4 false (encL (CV.l x))]] [] (AOut.ret (AV.sl 1 false (bys b))) [], g = g, N = List.length xs, (N + List.length (bys b)) * 1 ≤ 140737488355328, Am.Sub (int (IntKind.wrap IntKind.i64 ((↑i : Int) + 1))) (int (↑(i + 1) : Int))]) := by kernel_rfl

theorem re_step (k n : Int) (s : ByteArray) (l : List CV) (xs : List (List AV)) (N g i : Nat) (x : CV) (b : List UInt8) (hN : xs.length = N) (hN2 : N ≤ 10000000) (hb : b.length ≤ 10000000) (hi : i < l.length) (hl : l.length ≤ 9223372036854775807) (hx : l[i]? = some x) (h0 : ¬ bys b = []) (hv : CallC P G 23 [val x] [] (.ret (byt b)) []) (ex : AEx) (s' : St) (h : RunL P G none 0 (loopAt P 23 0) { env := slots 50 [(1, AV.ptr 0 0), (3, AV.own 1 (g + 1) 0 (N + List.length (bys b))), (4, int (↑(i + 1) : Int))], H := [AObj.box [int k, int n, str s, AV.sl 4 false (encL l)], AObj.arr (g + 1) 1 false (xs ++ bys b)] } ex s') : RunL P G none 0 (loopAt P 23 0) (reSt k n s l xs N g i) ex s' := by
  exact RunL.next _ _ _ (re_step_p1 k n s l xs N g i x b) ⟨Sub.of_eq (by simp only [Go.Cdc.encL_length]), (decide_eq_true (by omega)), (by rw [Go.Cdc.encL_map]; exact el_nat hx), (@hv ), (rfl), (by omega), (by simp only [List.length_append, List.length_cons, List.length_nil, List.length_map, Go.Cdc.bys_length, Go.Cdc.bys_ids, Go.Cdc.bys_pure] <;> omega), Sub.of_wrap (by omega) (by omega) (by omega), trivial⟩ h


theorem ren3_w_p1 (k : Int) (n : Int) (s : ByteArray) (l : List CV) (b : List UInt8) (g : Nat) : runF P G 23 [vmk k n s l] [] [Orc.br false, Orc.br false, Orc.val (some 30) (int (↑(List.length l) : Int)), Orc.call [] (AOut.ret (byt (num (List.length l % 18446744073709551616)))) [], Orc.loop [0, 2, 5, 6, 7, 8, 9, 10, 11, 12, 13, 14, 15, 16, 17, 18, 19, 20, 21, 22, 23, 24, 25, 26, 27, 28, 29, 30, 31, 32, 33, 34, 35, 36, 37, 38, 39, 40, 41, 42, 43, 44, 45, 46, 47, 48, 49] 2 (AEx.exit 1) [AV.dead, AV.dead, AV.dead, AV.own 1 g 0 (List.length b), AV.dead, AV.dead, AV.dead, AV.dead, AV.dead, AV.dead, AV.dead, AV.dead, AV.dead, AV.dead, AV.dead, AV.dead, AV.dead, AV.dead, AV.dead, AV.dead, AV.dead, AV.dead, AV.dead, AV.dead, AV.dead, AV.dead, AV.dead, AV.dead, AV.dead, AV.dead, AV.dead, AV.dead, AV.dead, AV.dead, AV.dead, AV.dead, AV.dead, AV.dead, AV.dead, AV.dead, AV.dead, AV.dead, AV.dead, AV.dead, AV.dead, AV.dead, AV.dead, AV.dead, AV.dead, AV.dead] [AObj.gone, AObj.arr g 1 false (bys b)], Orc.frz (bys b)] =
    some (AOut.ret (AV.sl 1 false (bys b)), [], [(k == 1) = false, (k == 2) = false, Am.Sub (int (↑(List.length (encL l)) : Int)) (int (↑(List.length l) : Int)), CallC P G 38 [AV.lit (Value.int IntKind.u64 (IntKind.wrap IntKind.u64 (↑(List.length l) : Int)))] [] (AOut.ret (AV.sl 1 false (bys (num (List.length l % 18446744073709551616))))) [], bys (num (List.length l % 18446744073709551616)) ≠ [], (1 + List.length (bys (num (List.length l % 18446744073709551616)))) * 1 ≤ 140737488355328, RunL P G none 0 (loopAt P 23 0) { env := slots 50 [(1, AV.ptr 0 0), (3, AV.own 1 0 0 (1 + List.length (bys (num (List.length l % 18446744073709551616))))), (4, int 0)], H := [AObj.box [int k, int n, str s, AV.sl 4 false (encL l)], AObj.arr 0 1 false ([AV.lit (Value.int IntKind.u8 3)] :: bys (num (List.length l % 18446744073709551616)))] } (AEx.exit 1) { env := slots 50 [(3, AV.own 1 g 0 (List.length b))], H := [AObj.gone, AObj.arr g 1 false (bys b)] }, g = g, List.take (List.length b) (List.drop 0 (bys b)) = bys b, List.length (bys b) = List.length b, ∀ (c : List AV), c ∈ bys b → List.all c AV.pureB = true]) := by kernel_rfl

theorem ren3_w (k n : Int) (s : ByteArray) (l : List CV) (b : List UInt8) (g : Nat) (h1 : k ≠ 1) (h2 : k ≠ 2) (hl : l.length ≤ 10000000) (h0 : ¬ bys (num (l.length % 18446744073709551616)) = []) (hb : b.length ≤ 10000000) (hL : RunL P G none 0 (loopAt P 23 0) (reSt k n s l ([.lit (.int .u8 3)] :: bys (num (l.length % 18446744073709551616))) (1 + (bys (num (l.length % 18446744073709551616))).length) 0 0) (.exit 1) { env := slots 50 [(3, .own 1 g 0 b.length)], H := [.gone, .arr g 1 false (bys b)] }) (h : (((1 + List.length (bys (num (List.length l % 18446744073709551616)))) * 1 ≤ 140737488355328) ∧ True)) : CallC P G 23 [vmk k n s l] [] (AOut.ret (byt b)) [] := by
  obtain ⟨o3, h⟩ := h
  have _ := h
  exact callC_of_run _ (ren3_w_p1 k n s l b g) ⟨(decide_eq_false (by omega)), (decide_eq_false (by omega)), Sub.of_eq (by simp only [Go.Cdc.encL_length]), (@Go.Cdc.rnumeral_c (List.length l % 18446744073709551616) (by omega)), h0, o3, (@hL ), (rfl), (by rw [List.drop_zero, List.take_of_length_le (by simp only [List.length_append, List.length_cons, List.length_nil, List.length_map, Go.Cdc.bys_length, Go.Cdc.bys_ids, Go.Cdc.bys_pure] <;> omega)]), (Go.Cdc.bys_length _), (Go.Cdc.bys_pure _), trivial⟩


theorem renc_bad_p1 (v : CV) (e : Int) : runF P G 9 [val v] [] [Orc.call [] (AOut.ret (int e)) [], Orc.br true] =
    some (AOut.ret (AV.tup [nilS, int e]), [], [CallC P G 13 [AV.agg [int (CV.k v), int (CV.n v), str (CV.s v), AV.sl 4 false (encL (CV.l v))]] [] (AOut.ret (int e)) [], (e != 0) = true]) := by kernel_rfl

theorem renc_bad (v : CV) (e : Int) (hv : CallC P G 13 [val v] [] (.ret (int e)) []) (he : e ≠ 0) (h : True) : CallC P G 9 [val v] [] (AOut.ret (AV.tup [nilS, int e])) [] := by
  have _ := h
  exact callC_of_run _ (renc_bad_p1 v e) ⟨(@hv ), (congrArg Bool.not (decide_eq_false (by omega))), trivial⟩


theorem renc_ok_p1 (v : CV) (b : List UInt8) : runF P G 9 [val v] [] [Orc.call [] (AOut.ret (int 0)) [], Orc.br false, Orc.call [] (AOut.ret (byt b)) []] =
    some (AOut.ret (AV.tup [AV.sl 1 false (bys b), int 0]), [], [CallC P G 13 [AV.agg [int (CV.k v), int (CV.n v), str (CV.s v), AV.sl 4 false (encL (CV.l v))]] [] (AOut.ret (int 0)) [], false = false, CallC P G 23 [AV.agg [int (CV.k v), int (CV.n v), str (CV.s v), AV.sl 4 false (encL (CV.l v))]] [] (AOut.ret (AV.sl 1 false (bys b))) []]) := by kernel_rfl

theorem renc_ok (v : CV) (b : List UInt8) (hv : CallC P G 13 [val v] [] (.ret (int 0)) []) (hw : CallC P G 23 [val v] [] (.ret (byt b)) []) (h : True) : CallC P G 9 [val v] [] (AOut.ret (AV.tup [byt b, int 0])) [] := by
  have _ := h
  exact callC_of_run _ (renc_ok_p1 v b) ⟨(@hv ), (rfl), (@hw ), trivial⟩


theorem rsize_w_p1 (v : CV) (e : Int) (b : List UInt8) : runF P G 11 [val v] [] [Orc.call [] (AOut.ret (AV.tup [byt b, int e])) []] =
    some (AOut.ret (AV.tup [int (↑(List.length (bys b)) : Int), int e]), [], [CallC P G 9 [AV.agg [int (CV.k v), int (CV.n v), str (CV.s v), AV.sl 4 false (encL (CV.l v))]] [] (AOut.ret (AV.tup [AV.sl 1 false (bys b), int e])) []]) := by kernel_rfl

theorem rsize_w (v : CV) (m : Nat) (e : Int) (b : List UInt8) (hm : b.length = m) (hv : CallC P G 9 [val v] [] (.ret (.tup [byt b, int e])) []) (h : ((↑(List.length (bys b)) : Int) : Int) = ((↑m : Int))) : CallC P G 11 [val v] [] (AOut.ret (AV.tup [int (↑m : Int), int e])) [] := by
  have e1 := h
  exact CallC.out (callC_of_run _ (rsize_w_p1 v e b) ⟨(@hv ), trivial⟩) (Sub.tups ⟨(Sub.int_eq e1), Sub.refl _, trivial⟩)


end Go.Cdc
