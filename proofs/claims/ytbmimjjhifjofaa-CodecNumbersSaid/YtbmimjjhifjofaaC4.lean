/- CODEC, 4: what is well-formed, and how deep. -/
import Derived.KernelRfl
import Derived.Test.YtbmimjjhifjofaaC0
namespace Go.Cdc
set_option linter.unusedSimpArgs false
set_option linter.unusedVariables false
open Go Go.Am Go.Proofs

mutual
def wf : CV → Bool
  | .mk k n s l => if k = 1 then decide (s = .empty) && decide (l.length = 0) else if k = 2 then decide (n = 0) && decide (l.length = 0) else if k = 3 then decide (n = 0) && decide (s = .empty) && wfL l else false
def wfL : List CV → Bool
  | [] => true
  | v :: l => wf v && wfL l
end
mutual
def dp : CV → Nat
  | .mk k _ _ l => if k = 3 then dpL l + 1 else 0
def dpL : List CV → Nat
  | [] => 0
  | v :: l => max (dp v) (dpL l)
end
theorem CV.ind {p : CV → Prop} (h : ∀ k n s l, (∀ x ∈ l, p x) → p (.mk k n s l)) (v : CV) : p v :=
  CV.rec (motive_1 := p) (motive_2 := fun l => ∀ x ∈ l, p x) (fun k n s l ih => h k n s l ih) (fun _ hx => by cases hx) (fun a l ha hl x hx => by
    rcases List.mem_cons.1 hx with rfl | hx
    · exact ha
    · exact hl x hx) v
/-- Data within what a machine holds. -/
inductive Okv : CV → Prop
  | mk (k n : Int) (s : ByteArray) (l : List CV) (hn : -9223372036854775808 ≤ n ∧ n < 9223372036854775808) (hs : s.size ≤ 9223372036854775807) (hl : l.length ≤ 9223372036854775807) (h : ∀ x ∈ l, Okv x) : Okv (.mk k n s l)
theorem dp_mem {l : List CV} {x : CV} (h : x ∈ l) : dp x ≤ dpL l := by
  induction l with
  | nil => cases h
  | cons a l ih =>
    simp only [dpL]
    rcases List.mem_cons.1 h with rfl | h
    · omega
    · have := ih h; omega
theorem empty_eq : ({ data := #[] } : ByteArray) = ByteArray.empty := rfl
/-- What an element says of itself. -/
def FormedC (v : CV) : Prop := CallC P G 24 [val v] [] (.ret (.tup [int (if wf v = true then dp v else 0), bool (wf v)])) []

theorem formed1_w_p1 (n : Int) (s : ByteArray) (l : List CV) : runF P G 24 [vmk 1 n s l] [] [Orc.val (some 11) (Am.bool (decide (s = { data := #[] }))), Orc.br true, Orc.val (some 15) (int (↑(List.length l) : Int)), Orc.br true, Orc.val (some 24) (int (↑(List.length l) : Int)), Orc.br true, Orc.val (some 33) (Am.bool (decide (s = { data := #[] }))), Orc.br false, Orc.br false, Orc.br false, Orc.br true] =
    some (AOut.ret (AV.tup [int 0, Am.bool true]), [], [Am.Sub (Am.bool (ByteArray.toList s == ByteArray.toList { data := #[] })) (Am.bool (decide (s = { data := #[] }))), decide (s = { data := #[] }) = true, Am.Sub (int (↑(List.length (encL l)) : Int)) (int (↑(List.length l) : Int)), (n == 0) = true, Am.Sub (int (↑(List.length (encL l)) : Int)) (int (↑(List.length l) : Int)), (n == 0) = true, Am.Sub (Am.bool (ByteArray.toList s == ByteArray.toList { data := #[] })) (Am.bool (decide (s = { data := #[] }))), false = false, false = false, (0 : Int) ≤ (1 : Int) ∧ (1 : Int) < (4 : Int), (!(↑(List.length l) : Int) == 0) = false, true = true]) := by kernel_rfl

theorem formed1_w_p2 (n : Int) (s : ByteArray) (l : List CV) : runF P G 24 [vmk 1 n s l] [] [Orc.val (some 11) (Am.bool (decide (s = { data := #[] }))), Orc.br true, Orc.val (some 15) (int (↑(List.length l) : Int)), Orc.br true, Orc.val (some 24) (int (↑(List.length l) : Int)), Orc.br true, Orc.val (some 33) (Am.bool (decide (s = { data := #[] }))), Orc.br false, Orc.br false, Orc.br true] =
    some (AOut.ret (AV.tup [int 0, Am.bool false]), [], [Am.Sub (Am.bool (ByteArray.toList s == ByteArray.toList { data := #[] })) (Am.bool (decide (s = { data := #[] }))), decide (s = { data := #[] }) = true, Am.Sub (int (↑(List.length (encL l)) : Int)) (int (↑(List.length l) : Int)), (n == 0) = true, Am.Sub (int (↑(List.length (encL l)) : Int)) (int (↑(List.length l) : Int)), (n == 0) = true, Am.Sub (Am.bool (ByteArray.toList s == ByteArray.toList { data := #[] })) (Am.bool (decide (s = { data := #[] }))), false = false, false = false, (0 : Int) ≤ (1 : Int) ∧ (1 : Int) < (4 : Int), (!(↑(List.length l) : Int) == 0) = true]) := by kernel_rfl

theorem formed1_w_p3 (n : Int) (s : ByteArray) (l : List CV) : runF P G 24 [vmk 1 n s l] [] [Orc.val (some 11) (Am.bool (decide (s = { data := #[] }))), Orc.br true, Orc.val (some 15) (int (↑(List.length l) : Int)), Orc.br false, Orc.br false, Orc.br false, Orc.br false, Orc.br false, Orc.br true] =
    some (AOut.ret (AV.tup [int 0, Am.bool true]), [], [Am.Sub (Am.bool (ByteArray.toList s == ByteArray.toList { data := #[] })) (Am.bool (decide (s = { data := #[] }))), decide (s = { data := #[] }) = true, Am.Sub (int (↑(List.length (encL l)) : Int)) (int (↑(List.length l) : Int)), (n == 0) = false, (n == 0) = false, false = false, false = false, (0 : Int) ≤ (1 : Int) ∧ (1 : Int) < (4 : Int), (!(↑(List.length l) : Int) == 0) = false, true = true]) := by kernel_rfl

theorem formed1_w_p4 (n : Int) (s : ByteArray) (l : List CV) : runF P G 24 [vmk 1 n s l] [] [Orc.val (some 11) (Am.bool (decide (s = { data := #[] }))), Orc.br true, Orc.val (some 15) (int (↑(List.length l) : Int)), Orc.br false, Orc.br false, Orc.br false, Orc.br false, Orc.br true] =
    some (AOut.ret (AV.tup [int 0, Am.bool false]), [], [Am.Sub (Am.bool (ByteArray.toList s == ByteArray.toList { data := #[] })) (Am.bool (decide (s = { data := #[] }))), decide (s = { data := #[] }) = true, Am.Sub (int (↑(List.length (encL l)) : Int)) (int (↑(List.length l) : Int)), (n == 0) = false, (n == 0) = false, false = false, false = false, (0 : Int) ≤ (1 : Int) ∧ (1 : Int) < (4 : Int), (!(↑(List.length l) : Int) == 0) = true]) := by kernel_rfl

theorem formed1_w_p5 (n : Int) (s : ByteArray) (l : List CV) : runF P G 24 [vmk 1 n s l] [] [Orc.val (some 11) (Am.bool (decide (s = { data := #[] }))), Orc.br false, Orc.br true, Orc.val (some 24) (int (↑(List.length l) : Int)), Orc.br true, Orc.val (some 33) (Am.bool (decide (s = { data := #[] }))), Orc.br false, Orc.br false, Orc.br true] =
    some (AOut.ret (AV.tup [int 0, Am.bool false]), [], [Am.Sub (Am.bool (ByteArray.toList s == ByteArray.toList { data := #[] })) (Am.bool (decide (s = { data := #[] }))), decide (s = { data := #[] }) = false, (n == 0) = true, Am.Sub (int (↑(List.length (encL l)) : Int)) (int (↑(List.length l) : Int)), (n == 0) = true, Am.Sub (Am.bool (ByteArray.toList s == ByteArray.toList { data := #[] })) (Am.bool (decide (s = { data := #[] }))), false = false, false = false, (0 : Int) ≤ (1 : Int) ∧ (1 : Int) < (4 : Int), true = true]) := by kernel_rfl

theorem formed1_w_p6 (n : Int) (s : ByteArray) (l : List CV) : runF P G 24 [vmk 1 n s l] [] [Orc.val (some 11) (Am.bool (decide (s = { data := #[] }))), Orc.br false, Orc.br false, Orc.br false, Orc.br false, Orc.br false, Orc.br true] =
    some (AOut.ret (AV.tup [int 0, Am.bool false]), [], [Am.Sub (Am.bool (ByteArray.toList s == ByteArray.toList { data := #[] })) (Am.bool (decide (s = { data := #[] }))), decide (s = { data := #[] }) = false, (n == 0) = false, (n == 0) = false, false = false, false = false, (0 : Int) ≤ (1 : Int) ∧ (1 : Int) < (4 : Int), true = true]) := by kernel_rfl

theorem formed1_w (n : Int) (s : ByteArray) (l : List CV) (a : Int) (b : Bool) (h : (((s = { data := #[] }) → (((n = (0 : Int)) → ((((↑(List.length l) : Int) = (0 : Int)) → ((0 : Int) = (a)) ∧ ((true) = (b))) ∧ ((¬(↑(List.length l) : Int) = (0 : Int)) → ((0 : Int) = (a)) ∧ ((false) = (b))))) ∧ ((¬n = (0 : Int)) → ((((↑(List.length l) : Int) = (0 : Int)) → ((0 : Int) = (a)) ∧ ((true) = (b))) ∧ ((¬(↑(List.length l) : Int) = (0 : Int)) → ((0 : Int) = (a)) ∧ ((false) = (b))))))) ∧ ((¬s = { data := #[] }) → (((n = (0 : Int)) → ((0 : Int) = (a)) ∧ ((false) = (b))) ∧ ((¬n = (0 : Int)) → ((0 : Int) = (a)) ∧ ((false) = (b))))))) : CallC P G 24 [vmk 1 n s l] [] (AOut.ret (AV.tup [int a, Am.bool b])) [] := by
  by_cases c1 : (s = { data := #[] })
  · have h := h.1 c1
    by_cases c2 : (n = (0 : Int))
    · have h := h.1 c2
      by_cases c3 : ((↑(List.length l) : Int) = (0 : Int))
      · have h := h.1 c3
        obtain ⟨e1, e2⟩ := h
        exact CallC.out (callC_of_run _ (formed1_w_p1 n s l) ⟨Sub.of_eq (by simp only [Go.Cdc.str_eq]), (decide_eq_true c1), Sub.of_eq (by simp only [Go.Cdc.encL_length]), (beq_iff_eq.2 c2), Sub.of_eq (by simp only [Go.Cdc.encL_length]), (beq_iff_eq.2 c2), Sub.of_eq (by simp only [Go.Cdc.str_eq]), (rfl), (rfl), (by omega), (congrArg Bool.not (beq_iff_eq.2 c3)), (rfl), trivial⟩) (Sub.tups ⟨(Sub.int_eq e1), (Sub.bool_eq e2), trivial⟩)
      · have h := h.2 c3
        obtain ⟨e1, e2⟩ := h
        exact CallC.out (callC_of_run _ (formed1_w_p2 n s l) ⟨Sub.of_eq (by simp only [Go.Cdc.str_eq]), (decide_eq_true c1), Sub.of_eq (by simp only [Go.Cdc.encL_length]), (beq_iff_eq.2 c2), Sub.of_eq (by simp only [Go.Cdc.encL_length]), (beq_iff_eq.2 c2), Sub.of_eq (by simp only [Go.Cdc.str_eq]), (rfl), (rfl), (by omega), (congrArg Bool.not (beq_eq_false_iff_ne.2 c3)), trivial⟩) (Sub.tups ⟨(Sub.int_eq e1), (Sub.bool_eq e2), trivial⟩)
    · have h := h.2 c2
      by_cases c4 : ((↑(List.length l) : Int) = (0 : Int))
      · have h := h.1 c4
        obtain ⟨e1, e2⟩ := h
        exact CallC.out (callC_of_run _ (formed1_w_p3 n s l) ⟨Sub.of_eq (by simp only [Go.Cdc.str_eq]), (decide_eq_true c1), Sub.of_eq (by simp only [Go.Cdc.encL_length]), (beq_eq_false_iff_ne.2 c2), (beq_eq_false_iff_ne.2 c2), (rfl), (rfl), (by omega), (congrArg Bool.not (beq_iff_eq.2 c4)), (rfl), trivial⟩) (Sub.tups ⟨(Sub.int_eq e1), (Sub.bool_eq e2), trivial⟩)
      · have h := h.2 c4
        obtain ⟨e1, e2⟩ := h
        exact CallC.out (callC_of_run _ (formed1_w_p4 n s l) ⟨Sub.of_eq (by simp only [Go.Cdc.str_eq]), (decide_eq_true c1), Sub.of_eq (by simp only [Go.Cdc.encL_length]), (beq_eq_false_iff_ne.2 c2), (beq_eq_false_iff_ne.2 c2), (rfl), (rfl), (by omega), (congrArg Bool.not (beq_eq_false_iff_ne.2 c4)), trivial⟩) (Sub.tups ⟨(Sub.int_eq e1), (Sub.bool_eq e2), trivial⟩)
  · have h := h.2 c1
    by_cases c5 : (n = (0 : Int))
    · have h := h.1 c5
      obtain ⟨e1, e2⟩ := h
      exact CallC.out (callC_of_run _ (formed1_w_p5 n s l) ⟨Sub.of_eq (by simp only [Go.Cdc.str_eq]), (decide_eq_false c1), (beq_iff_eq.2 c5), Sub.of_eq (by simp only [Go.Cdc.encL_length]), (beq_iff_eq.2 c5), Sub.of_eq (by simp only [Go.Cdc.str_eq]), (rfl), (rfl), (by omega), (rfl), trivial⟩) (Sub.tups ⟨(Sub.int_eq e1), (Sub.bool_eq e2), trivial⟩)
    · have h := h.2 c5
      obtain ⟨e1, e2⟩ := h
      exact CallC.out (callC_of_run _ (formed1_w_p6 n s l) ⟨Sub.of_eq (by simp only [Go.Cdc.str_eq]), (decide_eq_false c1), (beq_eq_false_iff_ne.2 c5), (beq_eq_false_iff_ne.2 c5), (rfl), (rfl), (by omega), (rfl), trivial⟩) (Sub.tups ⟨(Sub.int_eq e1), (Sub.bool_eq e2), trivial⟩)


theorem formed2_w_p1 (n : Int) (s : ByteArray) (l : List CV) : runF P G 24 [vmk 2 n s l] [] [Orc.val (some 11) (Am.bool (decide (s = { data := #[] }))), Orc.br true, Orc.val (some 15) (int (↑(List.length l) : Int)), Orc.br true, Orc.val (some 24) (int (↑(List.length l) : Int)), Orc.br true, Orc.val (some 33) (Am.bool (decide (s = { data := #[] }))), Orc.br false, Orc.br false, Orc.br false, Orc.br true] =
    some (AOut.ret (AV.tup [int 0, Am.bool true]), [], [Am.Sub (Am.bool (ByteArray.toList s == ByteArray.toList { data := #[] })) (Am.bool (decide (s = { data := #[] }))), decide (s = { data := #[] }) = true, Am.Sub (int (↑(List.length (encL l)) : Int)) (int (↑(List.length l) : Int)), (n == 0) = true, Am.Sub (int (↑(List.length (encL l)) : Int)) (int (↑(List.length l) : Int)), (n == 0) = true, Am.Sub (Am.bool (ByteArray.toList s == ByteArray.toList { data := #[] })) (Am.bool (decide (s = { data := #[] }))), false = false, false = false, (0 : Int) ≤ (2 : Int) ∧ (2 : Int) < (4 : Int), (!(↑(List.length l) : Int) == 0) = false, true = true]) := by kernel_rfl

theorem formed2_w_p2 (n : Int) (s : ByteArray) (l : List CV) : runF P G 24 [vmk 2 n s l] [] [Orc.val (some 11) (Am.bool (decide (s = { data := #[] }))), Orc.br true, Orc.val (some 15) (int (↑(List.length l) : Int)), Orc.br true, Orc.val (some 24) (int (↑(List.length l) : Int)), Orc.br true, Orc.val (some 33) (Am.bool (decide (s = { data := #[] }))), Orc.br false, Orc.br false, Orc.br true] =
    some (AOut.ret (AV.tup [int 0, Am.bool false]), [], [Am.Sub (Am.bool (ByteArray.toList s == ByteArray.toList { data := #[] })) (Am.bool (decide (s = { data := #[] }))), decide (s = { data := #[] }) = true, Am.Sub (int (↑(List.length (encL l)) : Int)) (int (↑(List.length l) : Int)), (n == 0) = true, Am.Sub (int (↑(List.length (encL l)) : Int)) (int (↑(List.length l) : Int)), (n == 0) = true, Am.Sub (Am.bool (ByteArray.toList s == ByteArray.toList { data := #[] })) (Am.bool (decide (s = { data := #[] }))), false = false, false = false, (0 : Int) ≤ (2 : Int) ∧ (2 : Int) < (4 : Int), (!(↑(List.length l) : Int) == 0) = true]) := by kernel_rfl

theorem formed2_w_p3 (n : Int) (s : ByteArray) (l : List CV) : runF P G 24 [vmk 2 n s l] [] [Orc.val (some 11) (Am.bool (decide (s = { data := #[] }))), Orc.br true, Orc.val (some 15) (int (↑(List.length l) : Int)), Orc.br false, Orc.br false, Orc.br false, Orc.br false, Orc.br true] =
    some (AOut.ret (AV.tup [int 0, Am.bool false]), [], [Am.Sub (Am.bool (ByteArray.toList s == ByteArray.toList { data := #[] })) (Am.bool (decide (s = { data := #[] }))), decide (s = { data := #[] }) = true, Am.Sub (int (↑(List.length (encL l)) : Int)) (int (↑(List.length l) : Int)), (n == 0) = false, (n == 0) = false, false = false, false = false, (0 : Int) ≤ (2 : Int) ∧ (2 : Int) < (4 : Int), true = true]) := by kernel_rfl

theorem formed2_w_p4 (n : Int) (s : ByteArray) (l : List CV) : runF P G 24 [vmk 2 n s l] [] [Orc.val (some 11) (Am.bool (decide (s = { data := #[] }))), Orc.br false, Orc.br true, Orc.val (some 24) (int (↑(List.length l) : Int)), Orc.br true, Orc.val (some 33) (Am.bool (decide (s = { data := #[] }))), Orc.br false, Orc.br false, Orc.br false, Orc.br true] =
    some (AOut.ret (AV.tup [int 0, Am.bool true]), [], [Am.Sub (Am.bool (ByteArray.toList s == ByteArray.toList { data := #[] })) (Am.bool (decide (s = { data := #[] }))), decide (s = { data := #[] }) = false, (n == 0) = true, Am.Sub (int (↑(List.length (encL l)) : Int)) (int (↑(List.length l) : Int)), (n == 0) = true, Am.Sub (Am.bool (ByteArray.toList s == ByteArray.toList { data := #[] })) (Am.bool (decide (s = { data := #[] }))), false = false, false = false, (0 : Int) ≤ (2 : Int) ∧ (2 : Int) < (4 : Int), (!(↑(List.length l) : Int) == 0) = false, true = true]) := by kernel_rfl

theorem formed2_w_p5 (n : Int) (s : ByteArray) (l : List CV) : runF P G 24 [vmk 2 n s l] [] [Orc.val (some 11) (Am.bool (decide (s = { data := #[] }))), Orc.br false, Orc.br true, Orc.val (some 24) (int (↑(List.length l) : Int)), Orc.br true, Orc.val (some 33) (Am.bool (decide (s = { data := #[] }))), Orc.br false, Orc.br false, Orc.br true] =
    some (AOut.ret (AV.tup [int 0, Am.bool false]), [], [Am.Sub (Am.bool (ByteArray.toList s == ByteArray.toList { data := #[] })) (Am.bool (decide (s = { data := #[] }))), decide (s = { data := #[] }) = false, (n == 0) = true, Am.Sub (int (↑(List.length (encL l)) : Int)) (int (↑(List.length l) : Int)), (n == 0) = true, Am.Sub (Am.bool (ByteArray.toList s == ByteArray.toList { data := #[] })) (Am.bool (decide (s = { data := #[] }))), false = false, false = false, (0 : Int) ≤ (2 : Int) ∧ (2 : Int) < (4 : Int), (!(↑(List.length l) : Int) == 0) = true]) := by kernel_rfl

theorem formed2_w_p6 (n : Int) (s : ByteArray) (l : List CV) : runF P G 24 [vmk 2 n s l] [] [Orc.val (some 11) (Am.bool (decide (s = { data := #[] }))), Orc.br false, Orc.br false, Orc.br false, Orc.br false, Orc.br false, Orc.br true] =
    some (AOut.ret (AV.tup [int 0, Am.bool false]), [], [Am.Sub (Am.bool (ByteArray.toList s == ByteArray.toList { data := #[] })) (Am.bool (decide (s = { data := #[] }))), decide (s = { data := #[] }) = false, (n == 0) = false, (n == 0) = false, false = false, false = false, (0 : Int) ≤ (2 : Int) ∧ (2 : Int) < (4 : Int), true = true]) := by kernel_rfl

theorem formed2_w (n : Int) (s : ByteArray) (l : List CV) (a : Int) (b : Bool) (h : (((s = { data := #[] }) → (((n = (0 : Int)) → ((((↑(List.length l) : Int) = (0 : Int)) → ((0 : Int) = (a)) ∧ ((true) = (b))) ∧ ((¬(↑(List.length l) : Int) = (0 : Int)) → ((0 : Int) = (a)) ∧ ((false) = (b))))) ∧ ((¬n = (0 : Int)) → ((0 : Int) = (a)) ∧ ((false) = (b))))) ∧ ((¬s = { data := #[] }) → (((n = (0 : Int)) → ((((↑(List.length l) : Int) = (0 : Int)) → ((0 : Int) = (a)) ∧ ((true) = (b))) ∧ ((¬(↑(List.length l) : Int) = (0 : Int)) → ((0 : Int) = (a)) ∧ ((false) = (b))))) ∧ ((¬n = (0 : Int)) → ((0 : Int) = (a)) ∧ ((false) = (b))))))) : CallC P G 24 [vmk 2 n s l] [] (AOut.ret (AV.tup [int a, Am.bool b])) [] := by
  by_cases c1 : (s = { data := #[] })
  · have h := h.1 c1
    by_cases c2 : (n = (0 : Int))
    · have h := h.1 c2
      by_cases c3 : ((↑(List.length l) : Int) = (0 : Int))
      · have h := h.1 c3
        obtain ⟨e1, e2⟩ := h
        exact CallC.out (callC_of_run _ (formed2_w_p1 n s l) ⟨Sub.of_eq (by simp only [Go.Cdc.str_eq]), (decide_eq_true c1), Sub.of_eq (by simp only [Go.Cdc.encL_length]), (beq_iff_eq.2 c2), Sub.of_eq (by simp only [Go.Cdc.encL_length]), (beq_iff_eq.2 c2), Sub.of_eq (by simp only [Go.Cdc.str_eq]), (rfl), (rfl), (by omega), (congrArg Bool.not (beq_iff_eq.2 c3)), (rfl), trivial⟩) (Sub.tups ⟨(Sub.int_eq e1), (Sub.bool_eq e2), trivial⟩)
      · have h := h.2 c3
        obtain ⟨e1, e2⟩ := h
        exact CallC.out (callC_of_run _ (formed2_w_p2 n s l) ⟨Sub.of_eq (by simp only [Go.Cdc.str_eq]), (decide_eq_true c1), Sub.of_eq (by simp only [Go.Cdc.encL_length]), (beq_iff_eq.2 c2), Sub.of_eq (by simp only [Go.Cdc.encL_length]), (beq_iff_eq.2 c2), Sub.of_eq (by simp only [Go.Cdc.str_eq]), (rfl), (rfl), (by omega), (congrArg Bool.not (beq_eq_false_iff_ne.2 c3)), trivial⟩) (Sub.tups ⟨(Sub.int_eq e1), (Sub.bool_eq e2), trivial⟩)
    · have h := h.2 c2
      obtain ⟨e1, e2⟩ := h
      exact CallC.out (callC_of_run _ (formed2_w_p3 n s l) ⟨Sub.of_eq (by simp only [Go.Cdc.str_eq]), (decide_eq_true c1), Sub.of_eq (by simp only [Go.Cdc.encL_length]), (beq_eq_false_iff_ne.2 c2), (beq_eq_false_iff_ne.2 c2), (rfl), (rfl), (by omega), (rfl), trivial⟩) (Sub.tups ⟨(Sub.int_eq e1), (Sub.bool_eq e2), trivial⟩)
  · have h := h.2 c1
    by_cases c4 : (n = (0 : Int))
    · have h := h.1 c4
      by_cases c5 : ((↑(List.length l) : Int) = (0 : Int))
      · have h := h.1 c5
        obtain ⟨e1, e2⟩ := h
        exact CallC.out (callC_of_run _ (formed2_w_p4 n s l) ⟨Sub.of_eq (by simp only [Go.Cdc.str_eq]), (decide_eq_false c1), (beq_iff_eq.2 c4), Sub.of_eq (by simp only [Go.Cdc.encL_length]), (beq_iff_eq.2 c4), Sub.of_eq (by simp only [Go.Cdc.str_eq]), (rfl), (rfl), (by omega), (congrArg Bool.not (beq_iff_eq.2 c5)), (rfl), trivial⟩) (Sub.tups ⟨(Sub.int_eq e1), (Sub.bool_eq e2), trivial⟩)
      · have h := h.2 c5
        obtain ⟨e1, e2⟩ := h
        exact CallC.out (callC_of_run _ (formed2_w_p5 n s l) ⟨Sub.of_eq (by simp only [Go.Cdc.str_eq]), (decide_eq_false c1), (beq_iff_eq.2 c4), Sub.of_eq (by simp only [Go.Cdc.encL_length]), (beq_iff_eq.2 c4), Sub.of_eq (by simp only [Go.Cdc.str_eq]), (rfl), (rfl), (by omega), (congrArg Bool.not (beq_eq_false_iff_ne.2 c5)), trivial⟩) (Sub.tups ⟨(Sub.int_eq e1), (Sub.bool_eq e2), trivial⟩)
    · have h := h.2 c4
      obtain ⟨e1, e2⟩ := h
      exact CallC.out (callC_of_run _ (formed2_w_p6 n s l) ⟨Sub.of_eq (by simp only [Go.Cdc.str_eq]), (decide_eq_false c1), (beq_eq_false_iff_ne.2 c4), (beq_eq_false_iff_ne.2 c4), (rfl), (rfl), (by omega), (rfl), trivial⟩) (Sub.tups ⟨(Sub.int_eq e1), (Sub.bool_eq e2), trivial⟩)


theorem formedx_w_p1 (k : Int) (n : Int) (s : ByteArray) (l : List CV) : runF P G 24 [vmk k n s l] [] [Orc.val (some 11) (Am.bool (decide (s = { data := #[] }))), Orc.br true, Orc.val (some 15) (int (↑(List.length l) : Int)), Orc.br true, Orc.val (some 24) (int (↑(List.length l) : Int)), Orc.br true, Orc.val (some 33) (Am.bool (decide (s = { data := #[] }))), Orc.br true, Orc.br true, Orc.br true] =
    some (AOut.ret (AV.tup [int 0, Am.bool false]), [], [Am.Sub (Am.bool (ByteArray.toList s == ByteArray.toList { data := #[] })) (Am.bool (decide (s = { data := #[] }))), decide (s = { data := #[] }) = true, Am.Sub (int (↑(List.length (encL l)) : Int)) (int (↑(List.length l) : Int)), (n == 0) = true, Am.Sub (int (↑(List.length (encL l)) : Int)) (int (↑(List.length l) : Int)), (n == 0) = true, Am.Sub (Am.bool (ByteArray.toList s == ByteArray.toList { data := #[] })) (Am.bool (decide (s = { data := #[] }))), decide (k < (1 : Int)) = true, true = true, true = true]) := by kernel_rfl

theorem formedx_w_p2 (k : Int) (n : Int) (s : ByteArray) (l : List CV) : runF P G 24 [vmk k n s l] [] [Orc.val (some 11) (Am.bool (decide (s = { data := #[] }))), Orc.br true, Orc.val (some 15) (int (↑(List.length l) : Int)), Orc.br true, Orc.val (some 24) (int (↑(List.length l) : Int)), Orc.br true, Orc.val (some 33) (Am.bool (decide (s = { data := #[] }))), Orc.br false, Orc.br true, Orc.br true] =
    some (AOut.ret (AV.tup [int 0, Am.bool false]), [], [Am.Sub (Am.bool (ByteArray.toList s == ByteArray.toList { data := #[] })) (Am.bool (decide (s = { data := #[] }))), decide (s = { data := #[] }) = true, Am.Sub (int (↑(List.length (encL l)) : Int)) (int (↑(List.length l) : Int)), (n == 0) = true, Am.Sub (int (↑(List.length (encL l)) : Int)) (int (↑(List.length l) : Int)), (n == 0) = true, Am.Sub (Am.bool (ByteArray.toList s == ByteArray.toList { data := #[] })) (Am.bool (decide (s = { data := #[] }))), decide (k < (1 : Int)) = false, decide (k > (3 : Int)) = true, true = true]) := by kernel_rfl

theorem formedx_w_p3 (k : Int) (n : Int) (s : ByteArray) (l : List CV) : runF P G 24 [vmk k n s l] [] [Orc.val (some 11) (Am.bool (decide (s = { data := #[] }))), Orc.br true, Orc.val (some 15) (int (↑(List.length l) : Int)), Orc.br false, Orc.br false, Orc.br true, Orc.br true, Orc.br true] =
    some (AOut.ret (AV.tup [int 0, Am.bool false]), [], [Am.Sub (Am.bool (ByteArray.toList s == ByteArray.toList { data := #[] })) (Am.bool (decide (s = { data := #[] }))), decide (s = { data := #[] }) = true, Am.Sub (int (↑(List.length (encL l)) : Int)) (int (↑(List.length l) : Int)), (n == 0) = false, (n == 0) = false, decide (k < (1 : Int)) = true, true = true, true = true]) := by kernel_rfl

theorem formedx_w_p4 (k : Int) (n : Int) (s : ByteArray) (l : List CV) : runF P G 24 [vmk k n s l] [] [Orc.val (some 11) (Am.bool (decide (s = { data := #[] }))), Orc.br true, Orc.val (some 15) (int (↑(List.length l) : Int)), Orc.br false, Orc.br false, Orc.br false, Orc.br true, Orc.br true] =
    some (AOut.ret (AV.tup [int 0, Am.bool false]), [], [Am.Sub (Am.bool (ByteArray.toList s == ByteArray.toList { data := #[] })) (Am.bool (decide (s = { data := #[] }))), decide (s = { data := #[] }) = true, Am.Sub (int (↑(List.length (encL l)) : Int)) (int (↑(List.length l) : Int)), (n == 0) = false, (n == 0) = false, decide (k < (1 : Int)) = false, decide (k > (3 : Int)) = true, true = true]) := by kernel_rfl

theorem formedx_w_p5 (k : Int) (n : Int) (s : ByteArray) (l : List CV) : runF P G 24 [vmk k n s l] [] [Orc.val (some 11) (Am.bool (decide (s = { data := #[] }))), Orc.br false, Orc.br true, Orc.val (some 24) (int (↑(List.length l) : Int)), Orc.br true, Orc.val (some 33) (Am.bool (decide (s = { data := #[] }))), Orc.br true, Orc.br true, Orc.br true] =
    some (AOut.ret (AV.tup [int 0, Am.bool false]), [], [Am.Sub (Am.bool (ByteArray.toList s == ByteArray.toList { data := #[] })) (Am.bool (decide (s = { data := #[] }))), decide (s = { data := #[] }) = false, (n == 0) = true, Am.Sub (int (↑(List.length (encL l)) : Int)) (int (↑(List.length l) : Int)), (n == 0) = true, Am.Sub (Am.bool (ByteArray.toList s == ByteArray.toList { data := #[] })) (Am.bool (decide (s = { data := #[] }))), decide (k < (1 : Int)) = true, true = true, true = true]) := by kernel_rfl

theorem formedx_w_p6 (k : Int) (n : Int) (s : ByteArray) (l : List CV) : runF P G 24 [vmk k n s l] [] [Orc.val (some 11) (Am.bool (decide (s = { data := #[] }))), Orc.br false, Orc.br true, Orc.val (some 24) (int (↑(List.length l) : Int)), Orc.br true, Orc.val (some 33) (Am.bool (decide (s = { data := #[] }))), Orc.br false, Orc.br true, Orc.br true] =
    some (AOut.ret (AV.tup [int 0, Am.bool false]), [], [Am.Sub (Am.bool (ByteArray.toList s == ByteArray.toList { data := #[] })) (Am.bool (decide (s = { data := #[] }))), decide (s = { data := #[] }) = false, (n == 0) = true, Am.Sub (int (↑(List.length (encL l)) : Int)) (int (↑(List.length l) : Int)), (n == 0) = true, Am.Sub (Am.bool (ByteArray.toList s == ByteArray.toList { data := #[] })) (Am.bool (decide (s = { data := #[] }))), decide (k < (1 : Int)) = false, decide (k > (3 : Int)) = true, true = true]) := by kernel_rfl

theorem formedx_w_p7 (k : Int) (n : Int) (s : ByteArray) (l : List CV) : runF P G 24 [vmk k n s l] [] [Orc.val (some 11) (Am.bool (decide (s = { data := #[] }))), Orc.br false, Orc.br false, Orc.br false, Orc.br true, Orc.br true, Orc.br true] =
    some (AOut.ret (AV.tup [int 0, Am.bool false]), [], [Am.Sub (Am.bool (ByteArray.toList s == ByteArray.toList { data := #[] })) (Am.bool (decide (s = { data := #[] }))), decide (s = { data := #[] }) = false, (n == 0) = false, (n == 0) = false, decide (k < (1 : Int)) = true, true = true, true = true]) := by kernel_rfl

theorem formedx_w_p8 (k : Int) (n : Int) (s : ByteArray) (l : List CV) : runF P G 24 [vmk k n s l] [] [Orc.val (some 11) (Am.bool (decide (s = { data := #[] }))), Orc.br false, Orc.br false, Orc.br false, Orc.br false, Orc.br true, Orc.br true] =
    some (AOut.ret (AV.tup [int 0, Am.bool false]), [], [Am.Sub (Am.bool (ByteArray.toList s == ByteArray.toList { data := #[] })) (Am.bool (decide (s = { data := #[] }))), decide (s = { data := #[] }) = false, (n == 0) = false, (n == 0) = false, decide (k < (1 : Int)) = false, decide (k > (3 : Int)) = true, true = true]) := by kernel_rfl

theorem formedx_w (k n : Int) (s : ByteArray) (l : List CV) (hk : k < 1 ∨ 3 < k) (h : (((s = { data := #[] }) → (((n = (0 : Int)) → (((k < (1 : Int)) → True) ∧ ((¬k < (1 : Int)) → True))) ∧ ((¬n = (0 : Int)) → (((k < (1 : Int)) → True) ∧ ((¬k < (1 : Int)) → True))))) ∧ ((¬s = { data := #[] }) → (((n = (0 : Int)) → (((k < (1 : Int)) → True) ∧ ((¬k < (1 : Int)) → True))) ∧ ((¬n = (0 : Int)) → (((k < (1 : Int)) → True) ∧ ((¬k < (1 : Int)) → True))))))) : CallC P G 24 [vmk k n s l] [] (AOut.ret (AV.tup [int 0, Am.bool false])) [] := by
  by_cases c1 : (s = { data := #[] })
  · have h := h.1 c1
    by_cases c2 : (n = (0 : Int))
    · have h := h.1 c2
      by_cases c3 : (k < (1 : Int))
      · have h := h.1 c3
        have _ := h
        exact callC_of_run _ (formedx_w_p1 k n s l) ⟨Sub.of_eq (by simp only [Go.Cdc.str_eq]), (decide_eq_true c1), Sub.of_eq (by simp only [Go.Cdc.encL_length]), (beq_iff_eq.2 c2), Sub.of_eq (by simp only [Go.Cdc.encL_length]), (beq_iff_eq.2 c2), Sub.of_eq (by simp only [Go.Cdc.str_eq]), (decide_eq_true c3), (rfl), (rfl), trivial⟩
      · have h := h.2 c3
        have _ := h
        exact callC_of_run _ (formedx_w_p2 k n s l) ⟨Sub.of_eq (by simp only [Go.Cdc.str_eq]), (decide_eq_true c1), Sub.of_eq (by simp only [Go.Cdc.encL_length]), (beq_iff_eq.2 c2), Sub.of_eq (by simp only [Go.Cdc.encL_length]), (beq_iff_eq.2 c2), Sub.of_eq (by simp only [Go.Cdc.str_eq]), (decide_eq_false c3), (decide_eq_true (by omega)), (rfl), trivial⟩
    · have h := h.2 c2
      by_cases c5 : (k < (1 : Int))
      · have h := h.1 c5
        have _ := h
        exact callC_of_run _ (formedx_w_p3 k n s l) ⟨Sub.of_eq (by simp only [Go.Cdc.str_eq]), (decide_eq_true c1), Sub.of_eq (by simp only [Go.Cdc.encL_length]), (beq_eq_false_iff_ne.2 c2), (beq_eq_false_iff_ne.2 c2), (decide_eq_true c5), (rfl), (rfl), trivial⟩
      · have h := h.2 c5
        have _ := h
        exact callC_of_run _ (formedx_w_p4 k n s l) ⟨Sub.of_eq (by simp only [Go.Cdc.str_eq]), (decide_eq_true c1), Sub.of_eq (by simp only [Go.Cdc.encL_length]), (beq_eq_false_iff_ne.2 c2), (beq_eq_false_iff_ne.2 c2), (decide_eq_false c5), (decide_eq_true (by omega)), (rfl), trivial⟩
  · have h := h.2 c1
    by_cases c7 : (n = (0 : Int))
    · have h := h.1 c7
      by_cases c8 : (k < (1 : Int))
      · have h := h.1 c8
        have _ := h
        exact callC_of_run _ (formedx_w_p5 k n s l) ⟨Sub.of_eq (by simp only [Go.Cdc.str_eq]), (decide_eq_false c1), (beq_iff_eq.2 c7), Sub.of_eq (by simp only [Go.Cdc.encL_length]), (beq_iff_eq.2 c7), Sub.of_eq (by simp only [Go.Cdc.str_eq]), (decide_eq_true c8), (rfl), (rfl), trivial⟩
      · have h := h.2 c8
        have _ := h
        exact callC_of_run _ (formedx_w_p6 k n s l) ⟨Sub.of_eq (by simp only [Go.Cdc.str_eq]), (decide_eq_false c1), (beq_iff_eq.2 c7), Sub.of_eq (by simp only [Go.Cdc.encL_length]), (beq_iff_eq.2 c7), Sub.of_eq (by simp only [Go.Cdc.str_eq]), (decide_eq_false c8), (decide_eq_true (by omega)), (rfl), trivial⟩
    · have h := h.2 c7
      by_cases c10 : (k < (1 : Int))
      · have h := h.1 c10
        have _ := h
        exact callC_of_run _ (formedx_w_p7 k n s l) ⟨Sub.of_eq (by simp only [Go.Cdc.str_eq]), (decide_eq_false c1), (beq_eq_false_iff_ne.2 c7), (beq_eq_false_iff_ne.2 c7), (decide_eq_true c10), (rfl), (rfl), trivial⟩
      · have h := h.2 c10
        have _ := h
        exact callC_of_run _ (formedx_w_p8 k n s l) ⟨Sub.of_eq (by simp only [Go.Cdc.str_eq]), (decide_eq_false c1), (beq_eq_false_iff_ne.2 c7), (beq_eq_false_iff_ne.2 c7), (decide_eq_false c10), (decide_eq_true (by omega)), (rfl), trivial⟩


def frmSt (l : List CV) (d : Int) (i : Nat) : St := { env := slots 74 [(2, int d), (3, bool false), (55, .sl 4 false (encL l)), (56, int l.length), (57, int i)], H := [] }

theorem frm_end_p1 (l : List CV) (d : Int) (i : Nat) : loopExit P G none 0 (loopAt P 24 0) (frmSt l d i) [Orc.br false] (others 74 [2, 3]) 0 =
    some (AEx.exit 0, { env := slots 74 [(2, int d), (3, Am.bool false)], H := [] }, [decide ((↑i : Int) < (↑(List.length l) : Int)) = false]) := by kernel_rfl

theorem frm_end (l : List CV) (d : Int) (i : Nat) (hi : l.length ≤ i) (h : True) : RunL P G none 0 (loopAt P 24 0) (frmSt l d i) (AEx.exit 0) { env := slots 74 [(2, int d), (3, Am.bool false)], H := [] } := by
  have _ := h
  exact RunL.exit _ _ _ (frm_end_p1 l d i) ⟨(decide_eq_false (by omega)), trivial⟩


theorem frm_step_p1 (l : List CV) (d : Nat) (i : Nat) (x : CV) : loopStep P G none 0 (loopAt P 24 0) (frmSt l (↑d : Int) i) [Orc.br true, Orc.elem (enc x), Orc.call [] (AOut.ret (AV.tup [int (if wf x = true then (↑(dp x) : Int) else 0), Am.bool (wf x)])) [], Orc.br false, Orc.val (some 71) (int (↑(i + 1) : Int))] (others 74 [2, 3, 55, 56, 57]) 0 =
    some ({ env := slots 74 [(2, int (if (if wf x = true then (↑(dp x) : Int) else 0) > (↑d : Int) then if wf x = true then (↑(dp x) : Int) else 0 else (↑d : Int))), (3, Am.bool false), (55, AV.sl 4 false (encL l)), (56, int (↑(List.length l) : Int)), (57, int (↑(i + 1) : Int))], H := [] }, [decide ((↑i : Int) < (↑(List.length l) : Int)) = true, (0 : Int) ≤ (↑i : Int) ∧ (encL l)[Int.toNat (↑i : Int)]? = some (enc x), CallC P G 24 [AV.agg [int (CV.k x), int (CV.n x), str (CV.s x), AV.sl 4 false (encL (CV.l x))]] [] (AOut.ret (AV.tup [int (if wf x = true then (↑(dp x) : Int) else 0), Am.bool (wf x)])) [], (!wf x) = false, Am.Sub (int (IntKind.wrap IntKind.i64 ((↑i : Int) + 1))) (int (↑(i + 1) : Int))]) := by kernel_rfl

theorem frm_step_p2 (l : List CV) (d : Nat) (i : Nat) (x : CV) : loopExit P G none 0 (loopAt P 24 0) (frmSt l (↑d : Int) i) [Orc.br true, Orc.elem (enc x), Orc.call [] (AOut.ret (AV.tup [int (if wf x = true then (↑(dp x) : Int) else 0), Am.bool (wf x)])) [], Orc.br true] (others 74 [2, 3]) 0 =
    some (AEx.ret, { env := slots 74 [(2, int 0), (3, Am.bool false)], H := [] }, [decide ((↑i : Int) < (↑(List.length l) : Int)) = true, (0 : Int) ≤ (↑i : Int) ∧ (encL l)[Int.toNat (↑i : Int)]? = some (enc x), CallC P G 24 [AV.agg [int (CV.k x), int (CV.n x), str (CV.s x), AV.sl 4 false (encL (CV.l x))]] [] (AOut.ret (AV.tup [int (if wf x = true then (↑(dp x) : Int) else 0), Am.bool (wf x)])) [], (!wf x) = true]) := by kernel_rfl

theorem frm_step (l : List CV) (d i : Nat) (x : CV) (hi : i < l.length) (hl : l.length ≤ 9223372036854775807) (hx : l[i]? = some x) (hd : dp x ≤ 1000000) (hv : CallC P G 24 [val x] [] (.ret (.tup [int (if wf x = true then dp x else 0), bool (wf x)])) []) (ex : AEx) (a : Int) (b : Bool) (h : ((((wf x) = true) → RunL P G none 0 (loopAt P 24 0) { env := slots 74 [(2, int (if (if wf x = true then (↑(dp x) : Int) else 0) > (↑d : Int) then if wf x = true then (↑(dp x) : Int) else 0 else (↑d : Int))), (3, Am.bool false), (55, AV.sl 4 false (encL l)), (56, int (↑(List.length l) : Int)), (57, int (↑(i + 1) : Int))], H := [] } ex { env := slots 74 [(2, int a), (3, Am.bool b)], H := [] }) ∧ (((wf x) = false) → (AEx.ret = ex) ∧ ((0 : Int) = (a)) ∧ ((false) = (b))))) : RunL P G none 0 (loopAt P 24 0) (frmSt l (↑d : Int) i) ex { env := slots 74 [(2, int a), (3, Am.bool b)], H := [] } := by
  rcases Bool.eq_false_or_eq_true ((wf x)) with c2 | c2
  · have h := h.1 c2
    exact RunL.next _ _ _ (frm_step_p1 l d i x) ⟨(decide_eq_true (by omega)), (by rw [Go.Cdc.encL_map]; exact el_nat hx), (@hv ), (congrArg Bool.not (c2)), Sub.of_wrap (by omega) (by omega) (by omega), trivial⟩ h
  · have h := h.2 c2
    obtain ⟨eX, e1, e2⟩ := h
    exact RunL.to (RunL.exit _ _ _ (frm_step_p2 l d i x) ⟨(decide_eq_true (by omega)), (by rw [Go.Cdc.encL_map]; exact el_nat hx), (@hv ), (congrArg Bool.not (c2)), trivial⟩) eX (SubS.slots ⟨rfl, (Sub.int_eq e1), rfl, (Sub.bool_eq e2), trivial⟩)


theorem formed3_w_p1 (n : Int) (s : ByteArray) (l : List CV) : runF P G 24 [vmk 3 n s l] [] [Orc.val (some 11) (Am.bool (decide (s = { data := #[] }))), Orc.br true, Orc.val (some 15) (int (↑(List.length l) : Int)), Orc.br true, Orc.val (some 24) (int (↑(List.length l) : Int)), Orc.br true, Orc.val (some 33) (Am.bool (decide (s = { data := #[] }))), Orc.br false, Orc.br false, Orc.br false, Orc.br false, Orc.val (some 56) (int (↑(List.length l) : Int)), Orc.loop [0, 1, 4, 5, 6, 7, 8, 9, 10, 11, 12, 13, 14, 15, 16, 17, 18, 19, 20, 21, 22, 23, 24, 25, 26, 27, 28, 29, 30, 31, 32, 33, 34, 35, 36, 37, 38, 39, 40, 41, 42, 43, 44, 45, 46, 47, 48, 49, 50, 51, 52, 53, 54, 58, 59, 60, 61, 62, 63, 64, 65, 66, 67, 68, 69, 70, 71, 72, 73] 0 (AEx.exit 0) [AV.dead, AV.dead, int (↑(dpL l) : Int), Am.bool false, AV.dead, AV.dead, AV.dead, AV.dead, AV.dead, AV.dead, AV.dead, AV.dead, AV.dead, AV.dead, AV.dead, AV.dead, AV.dead, AV.dead, AV.dead, AV.dead, AV.dead, AV.dead, AV.dead, AV.dead, AV.dead, AV.dead, AV.dead, AV.dead, AV.dead, AV.dead, AV.dead, AV.dead, AV.dead, AV.dead, AV.dead, AV.dead, AV.dead, AV.dead, AV.dead, AV.dead, AV.dead, AV.dead, AV.dead, AV.dead, AV.dead, AV.dead, AV.dead, AV.dead, AV.dead, AV.dead, AV.dead, AV.dead, AV.dead, AV.dead, AV.dead, AV.dead, AV.dead, AV.dead, AV.dead, AV.dead, AV.dead, AV.dead, AV.dead, AV.dead, AV.dead, AV.dead, AV.dead, AV.dead, AV.dead, AV.dead, AV.dead, AV.dead, AV.dead, AV.dead] [], Orc.val (some 73) (int (↑(dpL l + 1) : Int))] =
    some (AOut.ret (AV.tup [int (↑(dpL l + 1) : Int), Am.bool true]), [], [Am.Sub (Am.bool (ByteArray.toList s == ByteArray.toList { data := #[] })) (Am.bool (decide (s = { data := #[] }))), decide (s = { data := #[] }) = true, Am.Sub (int (↑(List.length (encL l)) : Int)) (int (↑(List.length l) : Int)), (n == 0) = true, Am.Sub (int (↑(List.length (encL l)) : Int)) (int (↑(List.length l) : Int)), (n == 0) = true, Am.Sub (Am.bool (ByteArray.toList s == ByteArray.toList { data := #[] })) (Am.bool (decide (s = { data := #[] }))), false = false, false = false, (0 : Int) ≤ (3 : Int) ∧ (3 : Int) < (4 : Int), (!decide (s = { data := #[] })) = false, false = false, Am.Sub (int (↑(List.length (encL l)) : Int)) (int (↑(List.length l) : Int)), RunL P G none 0 (loopAt P 24 0) { env := slots 74 [(2, int 0), (3, Am.bool false), (55, AV.sl 4 false (encL l)), (56, int (↑(List.length l) : Int)), (57, int 0)], H := [] } (AEx.exit 0) { env := slots 74 [(2, int (↑(dpL l) : Int)), (3, Am.bool false)], H := [] }, Am.Sub (int (IntKind.wrap IntKind.i64 ((↑(dpL l) : Int) + 1))) (int (↑(dpL l + 1) : Int))]) := by kernel_rfl

theorem formed3_w_p2 (n : Int) (s : ByteArray) (l : List CV) : runF P G 24 [vmk 3 n s l] [] [Orc.val (some 11) (Am.bool (decide (s = { data := #[] }))), Orc.br true, Orc.val (some 15) (int (↑(List.length l) : Int)), Orc.br true, Orc.val (some 24) (int (↑(List.length l) : Int)), Orc.br true, Orc.val (some 33) (Am.bool (decide (s = { data := #[] }))), Orc.br false, Orc.br false, Orc.br false, Orc.br false, Orc.val (some 56) (int (↑(List.length l) : Int)), Orc.loop [0, 1, 4, 5, 6, 7, 8, 9, 10, 11, 12, 13, 14, 15, 16, 17, 18, 19, 20, 21, 22, 23, 24, 25, 26, 27, 28, 29, 30, 31, 32, 33, 34, 35, 36, 37, 38, 39, 40, 41, 42, 43, 44, 45, 46, 47, 48, 49, 50, 51, 52, 53, 54, 58, 59, 60, 61, 62, 63, 64, 65, 66, 67, 68, 69, 70, 71, 72, 73] 0 AEx.ret [AV.dead, AV.dead, int 0, Am.bool false, AV.dead, AV.dead, AV.dead, AV.dead, AV.dead, AV.dead, AV.dead, AV.dead, AV.dead, AV.dead, AV.dead, AV.dead, AV.dead, AV.dead, AV.dead, AV.dead, AV.dead, AV.dead, AV.dead, AV.dead, AV.dead, AV.dead, AV.dead, AV.dead, AV.dead, AV.dead, AV.dead, AV.dead, AV.dead, AV.dead, AV.dead, AV.dead, AV.dead, AV.dead, AV.dead, AV.dead, AV.dead, AV.dead, AV.dead, AV.dead, AV.dead, AV.dead, AV.dead, AV.dead, AV.dead, AV.dead, AV.dead, AV.dead, AV.dead, AV.dead, AV.dead, AV.dead, AV.dead, AV.dead, AV.dead, AV.dead, AV.dead, AV.dead, AV.dead, AV.dead, AV.dead, AV.dead, AV.dead, AV.dead, AV.dead, AV.dead, AV.dead, AV.dead, AV.dead, AV.dead] []] =
    some (AOut.ret (AV.tup [int 0, Am.bool false]), [], [Am.Sub (Am.bool (ByteArray.toList s == ByteArray.toList { data := #[] })) (Am.bool (decide (s = { data := #[] }))), decide (s = { data := #[] }) = true, Am.Sub (int (↑(List.length (encL l)) : Int)) (int (↑(List.length l) : Int)), (n == 0) = true, Am.Sub (int (↑(List.length (encL l)) : Int)) (int (↑(List.length l) : Int)), (n == 0) = true, Am.Sub (Am.bool (ByteArray.toList s == ByteArray.toList { data := #[] })) (Am.bool (decide (s = { data := #[] }))), false = false, false = false, (0 : Int) ≤ (3 : Int) ∧ (3 : Int) < (4 : Int), (!decide (s = { data := #[] })) = false, false = false, Am.Sub (int (↑(List.length (encL l)) : Int)) (int (↑(List.length l) : Int)), RunL P G none 0 (loopAt P 24 0) { env := slots 74 [(2, int 0), (3, Am.bool false), (55, AV.sl 4 false (encL l)), (56, int (↑(List.length l) : Int)), (57, int 0)], H := [] } AEx.ret { env := slots 74 [(2, int 0), (3, Am.bool false)], H := [] }]) := by kernel_rfl

theorem formed3_w_p3 (n : Int) (s : ByteArray) (l : List CV) : runF P G 24 [vmk 3 n s l] [] [Orc.val (some 11) (Am.bool (decide (s = { data := #[] }))), Orc.br true, Orc.val (some 15) (int (↑(List.length l) : Int)), Orc.br false, Orc.br false, Orc.br false, Orc.br false, Orc.br true] =
    some (AOut.ret (AV.tup [int 0, Am.bool false]), [], [Am.Sub (Am.bool (ByteArray.toList s == ByteArray.toList { data := #[] })) (Am.bool (decide (s = { data := #[] }))), decide (s = { data := #[] }) = true, Am.Sub (int (↑(List.length (encL l)) : Int)) (int (↑(List.length l) : Int)), (n == 0) = false, (n == 0) = false, false = false, false = false, (0 : Int) ≤ (3 : Int) ∧ (3 : Int) < (4 : Int), true = true]) := by kernel_rfl

theorem formed3_w_p4 (n : Int) (s : ByteArray) (l : List CV) : runF P G 24 [vmk 3 n s l] [] [Orc.val (some 11) (Am.bool (decide (s = { data := #[] }))), Orc.br false, Orc.br true, Orc.val (some 24) (int (↑(List.length l) : Int)), Orc.br true, Orc.val (some 33) (Am.bool (decide (s = { data := #[] }))), Orc.br false, Orc.br false, Orc.br true] =
    some (AOut.ret (AV.tup [int 0, Am.bool false]), [], [Am.Sub (Am.bool (ByteArray.toList s == ByteArray.toList { data := #[] })) (Am.bool (decide (s = { data := #[] }))), decide (s = { data := #[] }) = false, (n == 0) = true, Am.Sub (int (↑(List.length (encL l)) : Int)) (int (↑(List.length l) : Int)), (n == 0) = true, Am.Sub (Am.bool (ByteArray.toList s == ByteArray.toList { data := #[] })) (Am.bool (decide (s = { data := #[] }))), false = false, false = false, (0 : Int) ≤ (3 : Int) ∧ (3 : Int) < (4 : Int), (!decide (s = { data := #[] })) = true]) := by kernel_rfl

theorem formed3_w_p5 (n : Int) (s : ByteArray) (l : List CV) : runF P G 24 [vmk 3 n s l] [] [Orc.val (some 11) (Am.bool (decide (s = { data := #[] }))), Orc.br false, Orc.br false, Orc.br false, Orc.br false, Orc.br false, Orc.br true] =
    some (AOut.ret (AV.tup [int 0, Am.bool false]), [], [Am.Sub (Am.bool (ByteArray.toList s == ByteArray.toList { data := #[] })) (Am.bool (decide (s = { data := #[] }))), decide (s = { data := #[] }) = false, (n == 0) = false, (n == 0) = false, false = false, false = false, (0 : Int) ≤ (3 : Int) ∧ (3 : Int) < (4 : Int), true = true]) := by kernel_rfl

theorem formed3_w (n : Int) (s : ByteArray) (l : List CV) (a : Int) (b : Bool) (hl : l.length ≤ 9223372036854775807) (hd : dpL l ≤ 1000000) (hL : RunL P G none 0 (loopAt P 24 0) (frmSt l 0 0) (if wfL l = true then .exit 0 else .ret) { env := slots 74 [(2, int (if wfL l = true then dpL l else 0)), (3, bool false)], H := [] }) (h : (((s = { data := #[] }) → (((n = (0 : Int)) → (((wfL l = true) → (((↑(dpL l + 1) : Int) : Int) = (a)) ∧ ((true) = (b))) ∧ ((¬wfL l = true) → ((0 : Int) = (a)) ∧ ((false) = (b))))) ∧ ((¬n = (0 : Int)) → ((0 : Int) = (a)) ∧ ((false) = (b))))) ∧ ((¬s = { data := #[] }) → (((n = (0 : Int)) → ((0 : Int) = (a)) ∧ ((false) = (b))) ∧ ((¬n = (0 : Int)) → ((0 : Int) = (a)) ∧ ((false) = (b))))))) : CallC P G 24 [vmk 3 n s l] [] (AOut.ret (AV.tup [int a, Am.bool b])) [] := by
  by_cases c1 : (s = { data := #[] })
  · have h := h.1 c1
    by_cases c2 : (n = (0 : Int))
    · have h := h.1 c2
      by_cases c3 : (wfL l = true)
      · have h := h.1 c3
        obtain ⟨e1, e2⟩ := h
        exact CallC.out (callC_of_run _ (formed3_w_p1 n s l) ⟨Sub.of_eq (by simp only [Go.Cdc.str_eq]), (decide_eq_true c1), Sub.of_eq (by simp only [Go.Cdc.encL_length]), (beq_iff_eq.2 c2), Sub.of_eq (by simp only [Go.Cdc.encL_length]), (beq_iff_eq.2 c2), Sub.of_eq (by simp only [Go.Cdc.str_eq]), (rfl), (rfl), (by omega), (congrArg Bool.not (decide_eq_true c1)), (rfl), Sub.of_eq (by simp only [Go.Cdc.encL_length]), (by have h0 := (@hL ); simp only [if_pos c3] at h0; exact h0), Sub.of_wrap (by omega) (by omega) (by omega), trivial⟩) (Sub.tups ⟨(Sub.int_eq e1), (Sub.bool_eq e2), trivial⟩)
      · have h := h.2 c3
        obtain ⟨e1, e2⟩ := h
        exact CallC.out (callC_of_run _ (formed3_w_p2 n s l) ⟨Sub.of_eq (by simp only [Go.Cdc.str_eq]), (decide_eq_true c1), Sub.of_eq (by simp only [Go.Cdc.encL_length]), (beq_iff_eq.2 c2), Sub.of_eq (by simp only [Go.Cdc.encL_length]), (beq_iff_eq.2 c2), Sub.of_eq (by simp only [Go.Cdc.str_eq]), (rfl), (rfl), (by omega), (congrArg Bool.not (decide_eq_true c1)), (rfl), Sub.of_eq (by simp only [Go.Cdc.encL_length]), (by have h0 := (@hL ); simp only [if_neg c3] at h0; exact h0), trivial⟩) (Sub.tups ⟨(Sub.int_eq e1), (Sub.bool_eq e2), trivial⟩)
    · have h := h.2 c2
      obtain ⟨e1, e2⟩ := h
      exact CallC.out (callC_of_run _ (formed3_w_p3 n s l) ⟨Sub.of_eq (by simp only [Go.Cdc.str_eq]), (decide_eq_true c1), Sub.of_eq (by simp only [Go.Cdc.encL_length]), (beq_eq_false_iff_ne.2 c2), (beq_eq_false_iff_ne.2 c2), (rfl), (rfl), (by omega), (rfl), trivial⟩) (Sub.tups ⟨(Sub.int_eq e1), (Sub.bool_eq e2), trivial⟩)
  · have h := h.2 c1
    by_cases c4 : (n = (0 : Int))
    · have h := h.1 c4
      obtain ⟨e1, e2⟩ := h
      exact CallC.out (callC_of_run _ (formed3_w_p4 n s l) ⟨Sub.of_eq (by simp only [Go.Cdc.str_eq]), (decide_eq_false c1), (beq_iff_eq.2 c4), Sub.of_eq (by simp only [Go.Cdc.encL_length]), (beq_iff_eq.2 c4), Sub.of_eq (by simp only [Go.Cdc.str_eq]), (rfl), (rfl), (by omega), (congrArg Bool.not (decide_eq_false c1)), trivial⟩) (Sub.tups ⟨(Sub.int_eq e1), (Sub.bool_eq e2), trivial⟩)
    · have h := h.2 c4
      obtain ⟨e1, e2⟩ := h
      exact CallC.out (callC_of_run _ (formed3_w_p5 n s l) ⟨Sub.of_eq (by simp only [Go.Cdc.str_eq]), (decide_eq_false c1), (beq_eq_false_iff_ne.2 c4), (beq_eq_false_iff_ne.2 c4), (rfl), (rfl), (by omega), (rfl), trivial⟩) (Sub.tups ⟨(Sub.int_eq e1), (Sub.bool_eq e2), trivial⟩)


theorem frm_loop (l : List CV) (hl : l.length ≤ 9223372036854775807) (hd : dpL l ≤ 1000000) (hv : ∀ x ∈ l, FormedC x) : ∀ (m i d : Nat), l.length - i = m → i ≤ l.length → d ≤ 1000000 →
    RunL P G none 0 (loopAt P 24 0) (frmSt l d i) (if wfL (l.drop i) = true then .exit 0 else .ret) { env := slots 74 [(2, int (if wfL (l.drop i) = true then ((max d (dpL (l.drop i)) : Nat) : Int) else 0)), (3, bool false)], H := [] } := by
  intro m
  induction m with
  | zero =>
    intro i d hm hi hd'
    rw [List.drop_of_length_le (by omega)]
    simp only [wfL, dpL, if_true, Nat.max_zero]
    exact frm_end l d i (by omega) trivial
  | succ m ih =>
    intro i d hm hi hd'
    have hlt : i < l.length := by omega
    have hx : l[i]? = some l[i] := List.getElem?_eq_getElem hlt
    have hmem : l[i] ∈ l := List.getElem_mem hlt
    have hdx := dp_mem hmem
    have e := List.drop_eq_getElem_cons hlt
    refine frm_step l d i l[i] hlt hl hx (by omega) (hv _ hmem) _ _ _ ⟨fun h => ?_, fun h => ?_⟩
    · have := ih (i + 1) (max d (dp l[i])) (by omega) (by omega) (by omega)
      rw [e]
      simp only [wfL, dpL, h, Bool.true_and, if_true]
      have e2 : (if ((dp l[i] : Nat) : Int) > (d : Int) then ((dp l[i] : Nat) : Int) else (d : Int)) = ((max d (dp l[i]) : Nat) : Int) := by
        split <;> omega
      rw [e2]
      unfold frmSt at this
      rw [show max d (max (dp l[i]) (dpL (l.drop (i + 1)))) = max (max d (dp l[i])) (dpL (l.drop (i + 1))) by omega]
      exact this
    · rw [e]
      simp only [wfL, h, Bool.false_and, Bool.false_eq_true, if_false]
      exact ⟨trivial, trivial, trivial⟩

theorem formed_c (v : CV) : Okv v → dp v ≤ 1000001 → FormedC v := by
  refine CV.ind (p := fun v => Okv v → dp v ≤ 1000001 → FormedC v) (fun k n s l ih hok hd => ?_) v
  cases hok with
  | mk _ _ _ _ hn hs hl hall =>
    unfold FormedC
    rw [val_mk]
    by_cases h1 : k = 1
    · subst h1
      have e : ((if wf (.mk 1 n s l) = true then dp (.mk 1 n s l) else 0 : Nat) : Int) = 0 := by simp [dp]
      have e' : (if wf (.mk 1 n s l) = true then ((dp (.mk 1 n s l) : Nat) : Int) else 0) = 0 := by simp [dp]
      rw [e']
      have ew : wf (.mk 1 n s l) = (decide (s = .empty) && decide (l.length = 0)) := by simp [wf]
      rw [ew]
      have T : s = .empty → (l.length : Int) = 0 → (0 : Int) = 0 ∧ true = (decide (s = .empty) && decide (l.length = 0)) := fun a b => ⟨rfl, by rw [decide_eq_true a, decide_eq_true (by omega)]; rfl⟩
      have F1 : s = .empty → ¬ (l.length : Int) = 0 → (0 : Int) = 0 ∧ false = (decide (s = .empty) && decide (l.length = 0)) := fun a b => ⟨rfl, by rw [decide_eq_true a, decide_eq_false (by omega)]; rfl⟩
      have F2 : ¬ s = .empty → (0 : Int) = 0 ∧ false = (decide (s = .empty) && decide (l.length = 0)) := fun a => ⟨rfl, by rw [decide_eq_false a]; rfl⟩
      exact formed1_w n s l _ _ ⟨fun a => ⟨fun _ => ⟨T a, F1 a⟩, fun _ => ⟨T a, F1 a⟩⟩, fun a => ⟨fun _ => F2 a, fun _ => F2 a⟩⟩
    · by_cases h2 : k = 2
      · subst h2
        have e' : (if wf (.mk 2 n s l) = true then ((dp (.mk 2 n s l) : Nat) : Int) else 0) = 0 := by simp [dp]
        rw [e']
        have ew : wf (.mk 2 n s l) = (decide (n = 0) && decide (l.length = 0)) := by simp [wf]
        rw [ew]
        have T : n = 0 → (l.length : Int) = 0 → (0 : Int) = 0 ∧ true = (decide (n = 0) && decide (l.length = 0)) := fun a b => ⟨rfl, by rw [decide_eq_true a, decide_eq_true (by omega)]; rfl⟩
        have F1 : n = 0 → ¬ (l.length : Int) = 0 → (0 : Int) = 0 ∧ false = (decide (n = 0) && decide (l.length = 0)) := fun a b => ⟨rfl, by rw [decide_eq_true a, decide_eq_false (by omega)]; rfl⟩
        have F2 : ¬ n = 0 → (0 : Int) = 0 ∧ false = (decide (n = 0) && decide (l.length = 0)) := fun a => ⟨rfl, by rw [decide_eq_false a]; rfl⟩
        exact formed2_w n s l _ _ ⟨fun _ => ⟨fun a => ⟨T a, F1 a⟩, F2⟩, fun _ => ⟨fun a => ⟨T a, F1 a⟩, F2⟩⟩
      · by_cases h3 : k = 3
        · subst h3
          have hd3 : dpL l ≤ 1000000 := by simp only [dp, if_true] at hd; omega
          have hL := frm_loop l hl hd3 (fun x hx => ih x hx (hall x hx) (by have := dp_mem hx; omega)) l.length 0 0 (by omega) (by omega) (by omega)
          rw [List.drop_zero, Nat.zero_max] at hL
          have ew : wf (.mk 3 n s l) = (decide (n = 0) && decide (s = .empty) && wfL l) := by simp [wf]
          have ed : dp (.mk 3 n s l) = dpL l + 1 := by simp [dp]
          rw [ew, ed]
          refine formed3_w n s l _ _ hl hd3 hL ⟨fun hs => ⟨fun hn => ⟨fun hw => ?_, fun hw => ?_⟩, fun hn => ?_⟩, fun hs => ⟨fun hn => ?_, fun hn => ?_⟩⟩ <;>
            (rw [empty_eq] at hs; simp [hn, hs]) <;> (try simp [hw])
        · have e : wf (.mk k n s l) = false := by simp [wf, h1, h2, h3]
          rw [e]
          simp only [Bool.false_eq_true, if_false]
          exact formedx_w k n s l (by omega) (by simp)

end Go.Cdc
