/- VECTOR, 2: what the reference's Join, Meet, Compare and With do. -/
import Derived.KernelRfl
import Derived.Test.YtpnoncfhclchdaaDoorV1
namespace Go.Vec
open Go Go.Am Go.Proofs

def check2E (a b : List D) : Int := if checkE a = 0 then checkE b else checkE a

theorem rcheck2_w_p1 (a : List D) (b : List D) : runF P G 32 [vec a, vec b] [] [Orc.call [] (AOut.ret (int (checkE a))) [], Orc.br true, Orc.call [] (AOut.ret (int (checkE b))) []] =
    some (AOut.ret (int (checkE b)), [], [CallC P G 15 [AV.sl 2 false (encs a)] [] (AOut.ret (int (checkE a))) [], (checkE a == 0) = true, CallC P G 15 [AV.sl 2 false (encs b)] [] (AOut.ret (int (checkE b))) []]) := by kernel_rfl

theorem rcheck2_w_p2 (a : List D) (b : List D) : runF P G 32 [vec a, vec b] [] [Orc.call [] (AOut.ret (int (checkE a))) [], Orc.br false] =
    some (AOut.ret (int (checkE a)), [], [CallC P G 15 [AV.sl 2 false (encs a)] [] (AOut.ret (int (checkE a))) [], (checkE a == 0) = false]) := by kernel_rfl

theorem rcheck2_w (a b : List D) (ha : a.length ≤ 1000000000) (hb : b.length ≤ 1000000000) (h : (((checkE a = 0) → checkE b = check2E a b) ∧ ((¬checkE a = 0) → checkE a = check2E a b))) : CallC P G 32 [vec a, vec b] [] (AOut.ret (int (check2E a b))) [] := by
  by_cases c1 : (checkE a = 0)
  · have h := h.1 c1
    have e1 := h
    exact CallC.out (callC_of_run _ (rcheck2_w_p1 a b) ⟨(@Go.Vec.rcheck_c (a) (by omega)), (beq_iff_eq.2 c1), (@Go.Vec.rcheck_c (b) (by omega)), trivial⟩) (Sub.int_eq e1)
  · have h := h.2 c1
    have e1 := h
    exact CallC.out (callC_of_run _ (rcheck2_w_p2 a b) ⟨(@Go.Vec.rcheck_c (a) (by omega)), (beq_eq_false_iff_ne.2 c1), trivial⟩) (Sub.int_eq e1)


theorem check2_w_p1 (a : List D) (b : List D) : runF P G 34 [vec a, vec b] [] [Orc.call [] (AOut.ret (int (checkE a))) [], Orc.br false, Orc.call [] (AOut.ret (int (checkE b))) []] =
    some (AOut.ret (int (checkE b)), [], [CallC P G 14 [AV.sl 2 false (encs a)] [] (AOut.ret (int (checkE a))) [], (checkE a != 0) = false, CallC P G 14 [AV.sl 2 false (encs b)] [] (AOut.ret (int (checkE b))) []]) := by kernel_rfl

theorem check2_w_p2 (a : List D) (b : List D) : runF P G 34 [vec a, vec b] [] [Orc.call [] (AOut.ret (int (checkE a))) [], Orc.br true] =
    some (AOut.ret (int (checkE a)), [], [CallC P G 14 [AV.sl 2 false (encs a)] [] (AOut.ret (int (checkE a))) [], (checkE a != 0) = true]) := by kernel_rfl

theorem check2_w (a b : List D) (ha : a.length ≤ 1000000000) (hb : b.length ≤ 1000000000) (h : (((checkE a = 0) → checkE b = check2E a b) ∧ ((¬checkE a = 0) → checkE a = check2E a b))) : CallC P G 34 [vec a, vec b] [] (AOut.ret (int (check2E a b))) [] := by
  by_cases c1 : (checkE a = 0)
  · have h := h.1 c1
    have e1 := h
    exact CallC.out (callC_of_run _ (check2_w_p1 a b) ⟨(@Go.Vec.check_c (a) (by omega)), (congrArg Bool.not (beq_iff_eq.2 c1)), (@Go.Vec.check_c (b) (by omega)), trivial⟩) (Sub.int_eq e1)
  · have h := h.2 c1
    have e1 := h
    exact CallC.out (callC_of_run _ (check2_w_p2 a b) ⟨(@Go.Vec.check_c (a) (by omega)), (congrArg Bool.not (beq_eq_false_iff_ne.2 c1)), trivial⟩) (Sub.int_eq e1)


theorem rcheck2_c (a b : List D) (ha : a.length ≤ 1000000000) (hb : b.length ≤ 1000000000) : CallC P G 32 [vec a, vec b] [] (.ret (int (check2E a b))) [] :=
  rcheck2_w a b ha hb (by unfold check2E; exact ⟨fun h => by rw [if_pos h], fun h => by rw [if_neg h]⟩)
theorem check2_c (a b : List D) (ha : a.length ≤ 1000000000) (hb : b.length ≤ 1000000000) : CallC P G 34 [vec a, vec b] [] (.ret (int (check2E a b))) [] :=
  check2_w a b ha hb (by unfold check2E; exact ⟨fun h => by rw [if_pos h], fun h => by rw [if_neg h]⟩)

/-! Most -/
def mostSt (a b : List D) (k : Nat) : St := { env := slots 25 [(0, vec a), (1, vec b), (4, bool false), (5, int k)], H := [] }

theorem most_w_p1 (a : List D) (b : List D) (k : Nat) (x2 : D) : loopExit P G none 0 (loopAt P 36 0) (mostSt a b k) [Orc.val (some 8) (int (↑(List.length a) : Int)), Orc.br true, Orc.elem (enc x2), Orc.elem (enc x2), Orc.call [] (AOut.ret (int (atV (Prod.fst x2) b))) [], Orc.br true] (others 25 [4]) 0 =
    some (AEx.ret, { env := slots 25 [(4, Am.bool false)], H := [] }, [Am.Sub (int (↑(List.length (encs a)) : Int)) (int (↑(List.length a) : Int)), decide ((↑k : Int) < (↑(List.length a) : Int)) = true, 0 ≤ (↑k : Int) ∧ (encs a)[Int.toNat (↑k : Int)]? = some (enc x2), 0 ≤ (↑k : Int) ∧ (encs a)[Int.toNat (↑k : Int)]? = some (enc x2), CallC P G 17 [AV.sl 2 false (encs b), int (Prod.fst x2)] [] (AOut.ret (int (atV (Prod.fst x2) b))) [], decide (Prod.snd x2 > atV (Prod.fst x2) b) = true]) := by kernel_rfl

theorem most_w_p2 (a : List D) (b : List D) (k : Nat) (x2 : D) : loopStep P G none 0 (loopAt P 36 0) (mostSt a b k) [Orc.val (some 8) (int (↑(List.length a) : Int)), Orc.br true, Orc.elem (enc x2), Orc.elem (enc x2), Orc.call [] (AOut.ret (int (atV (Prod.fst x2) b))) [], Orc.br false, Orc.val (some 11) (int (↑(k + 1) : Int))] (others 25 [0, 1, 4, 5]) 0 =
    some ({ env := slots 25 [(0, AV.sl 2 false (encs a)), (1, AV.sl 2 false (encs b)), (4, Am.bool false), (5, int (↑(k + 1) : Int))], H := [] }, [Am.Sub (int (↑(List.length (encs a)) : Int)) (int (↑(List.length a) : Int)), decide ((↑k : Int) < (↑(List.length a) : Int)) = true, 0 ≤ (↑k : Int) ∧ (encs a)[Int.toNat (↑k : Int)]? = some (enc x2), 0 ≤ (↑k : Int) ∧ (encs a)[Int.toNat (↑k : Int)]? = some (enc x2), CallC P G 17 [AV.sl 2 false (encs b), int (Prod.fst x2)] [] (AOut.ret (int (atV (Prod.fst x2) b))) [], decide (Prod.snd x2 > atV (Prod.fst x2) b) = false, Am.Sub (int (IntKind.wrap IntKind.i64 ((↑k : Int) + 1))) (int (↑(k + 1) : Int))]) := by kernel_rfl

theorem most_w_p3 (a : List D) (b : List D) (k : Nat) : loopExit P G none 0 (loopAt P 36 0) (mostSt a b k) [Orc.val (some 8) (int (↑(List.length a) : Int)), Orc.br false] (others 25 [4]) 0 =
    some (AEx.exit 0, { env := slots 25 [(4, Am.bool false)], H := [] }, [Am.Sub (int (↑(List.length (encs a)) : Int)) (int (↑(List.length a) : Int)), decide ((↑k : Int) < (↑(List.length a) : Int)) = false]) := by kernel_rfl

theorem most_w (a b : List D) (k : Nat) (ha : a.length ≤ 1000000000) (hb : b.length ≤ 1000000000) (ex : AEx) (r : Bool) (h : ((((↑k : Int) < (↑(List.length a) : Int)) → (∃ x2 : D, (a[k]? = some x2) ∧ (((Prod.snd x2 > atV (Prod.fst x2) b) → (AEx.ret = ex) ∧ (false = r)) ∧ ((¬Prod.snd x2 > atV (Prod.fst x2) b) → RunL P G none 0 (loopAt P 36 0) { env := slots 25 [(0, AV.sl 2 false (encs a)), (1, AV.sl 2 false (encs b)), (4, Am.bool false), (5, int (↑(k + 1) : Int))], H := [] } ex { env := slots 25 [(4, Am.bool r)], H := [] })))) ∧ ((¬(↑k : Int) < (↑(List.length a) : Int)) → (AEx.exit 0 = ex) ∧ (false = r)))) : RunL P G none 0 (loopAt P 36 0) (mostSt a b k) ex { env := slots 25 [(4, Am.bool r)], H := [] } := by
  by_cases c1 : ((↑k : Int) < (↑(List.length a) : Int))
  · have h := h.1 c1
    obtain ⟨x2, o3, h⟩ := h
    by_cases c4 : (Prod.snd x2 > atV (Prod.fst x2) b)
    · have h := h.1 c4
      obtain ⟨eX, e1⟩ := h
      exact RunL.to (RunL.exit _ _ _ (most_w_p1 a b k x2) ⟨Sub.of_eq (by simp only [Go.Vec.encs_length]), (decide_eq_true c1), (el_nat o3), (el_nat o3), (@Go.Vec.rat_c (b) (Prod.fst x2) (by omega)), (decide_eq_true c4), trivial⟩) eX (SubS.slots ⟨rfl, (Sub.bool_eq e1), trivial⟩)
    · have h := h.2 c4
      exact RunL.next _ _ _ (most_w_p2 a b k x2) ⟨Sub.of_eq (by simp only [Go.Vec.encs_length]), (decide_eq_true c1), (el_nat o3), (el_nat o3), (@Go.Vec.rat_c (b) (Prod.fst x2) (by omega)), (decide_eq_false c4), Sub.of_wrap (by omega) (by omega) (by omega), trivial⟩ h
  · have h := h.2 c1
    obtain ⟨eX, e1⟩ := h
    exact RunL.to (RunL.exit _ _ _ (most_w_p3 a b k) ⟨Sub.of_eq (by simp only [Go.Vec.encs_length]), (decide_eq_false c1), trivial⟩) eX (SubS.slots ⟨rfl, (Sub.bool_eq e1), trivial⟩)


def mostB (a b : List D) : Bool := a.all fun d => decide (d.2 ≤ atV d.1 b)
theorem most_loop (a b : List D) (ha : a.length ≤ 1000000000) (hb : b.length ≤ 1000000000) : ∀ n k, a.length - k = n → k ≤ a.length →
    RunL P G none 0 (loopAt P 36 0) (mostSt a b k) (if mostB (a.drop k) b = true then .exit 0 else .ret) { env := slots 25 [(4, bool false)], H := [] } := by
  intro n
  induction n with
  | zero =>
    intro k hn hk
    have e : a.drop k = [] := List.drop_of_length_le (by omega)
    rw [e]
    exact most_w a b k ha hb _ _ ⟨fun h => absurd h (by omega), fun _ => ⟨rfl, rfl⟩⟩
  | succ n ih =>
    intro k hn hk
    have hlt : k < a.length := by omega
    have e := List.drop_eq_getElem_cons hlt
    have hc : mostB (a.drop k) b = (decide (a[k].2 ≤ atV a[k].1 b) && mostB (a.drop (k + 1)) b) := by rw [e]; rfl
    rw [hc]
    refine most_w a b k ha hb _ _ ⟨fun h => ⟨a[k], List.getElem?_eq_getElem hlt, ⟨fun hq => ?_, fun hq => ?_⟩⟩, fun h => absurd hlt (by omega)⟩
    · rw [decide_eq_false (by omega)]; exact ⟨rfl, rfl⟩
    · rw [decide_eq_true (by omega), Bool.true_and]
      exact ih (k + 1) (by omega) (by omega)
theorem most_l (a b : List D) (ha : a.length ≤ 1000000000) (hb : b.length ≤ 1000000000) : RunL P G none 0 (loopAt P 36 0) (mostSt a b 0) (if mostB a b = true then .exit 0 else .ret) { env := slots 25 [(4, bool false)], H := [] } :=
  most_loop a b ha hb _ 0 rfl (by omega)

theorem most_f_p1 (a : List D) (b : List D) : runF P G 36 [vec a, vec b] [] [Orc.loop [2, 3, 6, 7, 8, 9, 10, 11, 12, 13, 14, 15, 16, 17, 18, 19, 20, 21, 22, 23, 24] 0 (AEx.exit 0) [AV.dead, AV.dead, AV.dead, AV.dead, Am.bool false, AV.dead, AV.dead, AV.dead, AV.dead, AV.dead, AV.dead, AV.dead, AV.dead, AV.dead, AV.dead, AV.dead, AV.dead, AV.dead, AV.dead, AV.dead, AV.dead, AV.dead, AV.dead, AV.dead, AV.dead] []] =
    some (AOut.ret (Am.bool true), [], [RunL P G none 0 (loopAt P 36 0) { env := slots 25 [(0, AV.sl 2 false (encs a)), (1, AV.sl 2 false (encs b)), (4, Am.bool false), (5, int 0)], H := [] } (AEx.exit 0) { env := slots 25 [(4, Am.bool false)], H := [] }]) := by kernel_rfl

theorem most_f_p2 (a : List D) (b : List D) : runF P G 36 [vec a, vec b] [] [Orc.loop [2, 3, 6, 7, 8, 9, 10, 11, 12, 13, 14, 15, 16, 17, 18, 19, 20, 21, 22, 23, 24] 0 AEx.ret [AV.dead, AV.dead, AV.dead, AV.dead, Am.bool false, AV.dead, AV.dead, AV.dead, AV.dead, AV.dead, AV.dead, AV.dead, AV.dead, AV.dead, AV.dead, AV.dead, AV.dead, AV.dead, AV.dead, AV.dead, AV.dead, AV.dead, AV.dead, AV.dead, AV.dead] []] =
    some (AOut.ret (Am.bool false), [], [RunL P G none 0 (loopAt P 36 0) { env := slots 25 [(0, AV.sl 2 false (encs a)), (1, AV.sl 2 false (encs b)), (4, Am.bool false), (5, int 0)], H := [] } AEx.ret { env := slots 25 [(4, Am.bool false)], H := [] }]) := by kernel_rfl

theorem most_f (a b : List D) (ha : a.length ≤ 1000000000) (hb : b.length ≤ 1000000000) (h : (((mostB a b = true) → true = mostB a b) ∧ ((¬mostB a b = true) → false = mostB a b))) : CallC P G 36 [vec a, vec b] [] (AOut.ret (Am.bool (mostB a b))) [] := by
  by_cases c1 : (mostB a b = true)
  · have h := h.1 c1
    have e1 := h
    exact CallC.out (callC_of_run _ (most_f_p1 a b) ⟨(by have h0 := (@Go.Vec.most_l (a) (b) (by omega) (by omega)); simp only [if_pos c1] at h0; exact h0), trivial⟩) (Sub.bool_eq e1)
  · have h := h.2 c1
    have e1 := h
    exact CallC.out (callC_of_run _ (most_f_p2 a b) ⟨(by have h0 := (@Go.Vec.most_l (a) (b) (by omega) (by omega)); simp only [if_neg c1] at h0; exact h0), trivial⟩) (Sub.bool_eq e1)


theorem most_c (a b : List D) (ha : a.length ≤ 1000000000) (hb : b.length ≤ 1000000000) : CallC P G 36 [vec a, vec b] [] (.ret (bool (mostB a b))) [] :=
  most_f a b ha hb ⟨fun h => h.symm, fun h => (by simpa using h : mostB a b = false).symm⟩

/-! devices -/
def devSt0 (a b : List D) (i k : Nat) : St := { env := slots 74 [(0, vec a), (1, vec b), (4, nilS), (5, nilS), (6, int i), (7, int k)], H := [] }
def devSt1 (a b : List D) (i k g : Nat) (l : List Int) : St := { env := slots 74 [(0, vec a), (1, vec b), (4, nilS), (5, .own 0 g 0 l.length), (6, int i), (7, int k)], H := [.arr g 1 false (ints l)] }

theorem dev_w0_p1 (a : List D) (b : List D) (i : Nat) (k : Nat) (x2 : D) (x5 : D) : loopStep P G none 0 (loopAt P 33 0) (devSt0 a b i k) [Orc.val (some 11) (int (↑(List.length a) : Int)), Orc.br true, Orc.br true, Orc.val (some 21) (int (↑(List.length a) : Int)), Orc.br true, Orc.elem (enc x2), Orc.val (some 30) (int (↑(List.length b) : Int)), Orc.br true, Orc.elem (enc x5), Orc.val (some 41) (int (↑(List.length a) : Int)), Orc.br true, Orc.elem (enc x2), Orc.br true, Orc.val (some 53) (int (↑(i + 1) : Int)), Orc.val (some 56) (int (↑(List.length b) : Int)), Orc.br true, Orc.elem (enc x5), Orc.br true, Orc.val (some 68) (int (↑(k + 1) : Int))] (others 74 [0, 1, 4, 5, 6, 7]) 1 =
    some ({ env := slots 74 [(0, AV.sl 2 false (encs a)), (1, AV.sl 2 false (encs b)), (4, nilS), (5, AV.own 0 0 0 (List.length [if Prod.fst x5 < Prod.fst x2 then Prod.fst x5 else Prod.fst x2])), (6, int (↑(i + 1) : Int)), (7, int (↑(k + 1) : Int))], H := [AObj.arr 0 1 false (ints [if Prod.fst x5 < Prod.fst x2 then Prod.fst x5 else Prod.fst x2])] }, [Am.Sub (int (↑(List.length (encs a)) : Int)) (int (↑(List.length a) : Int)), decide ((↑i : Int) < (↑(List.length a) : Int)) = true, true = true, Am.Sub (int (↑(List.length (encs a)) : Int)) (int (↑(List.length a) : Int)), decide ((↑i : Int) < (↑(List.length a) : Int)) = true, 0 ≤ (↑i : Int) ∧ (encs a)[Int.toNat (↑i : Int)]? = some (enc x2), Am.Sub (int (↑(List.length (encs b)) : Int)) (int (↑(List.length b) : Int)), decide ((↑k : Int) < (↑(List.length b) : Int)) = true, 0 ≤ (↑k : Int) ∧ (encs b)[Int.toNat (↑k : Int)]? = some (enc x5), Am.Sub (int (↑(List.length (encs a)) : Int)) (int (↑(List.length a) : Int)), decide ((↑i : Int) < (↑(List.length a) : Int)) = true, 0 ≤ (↑i : Int) ∧ (encs a)[Int.toNat (↑i : Int)]? = some (enc x2), (Prod.fst x2 == if Prod.fst x5 < Prod.fst x2 then Prod.fst x5 else Prod.fst x2) = true, Am.Sub (int (IntKind.wrap IntKind.i64 ((↑i : Int) + 1))) (int (↑(i + 1) : Int)), Am.Sub (int (↑(List.length (encs b)) : Int)) (int (↑(List.length b) : Int)), decide ((↑k : Int) < (↑(List.length b) : Int)) = true, 0 ≤ (↑k : Int) ∧ (encs b)[Int.toNat (↑k : Int)]? = some (enc x5), (Prod.fst x5 == if Prod.fst x5 < Prod.fst x2 then Prod.fst x5 else Prod.fst x2) = true, Am.Sub (int (IntKind.wrap IntKind.i64 ((↑k : Int) + 1))) (int (↑(k + 1) : Int)), [[int (if Prod.fst x5 < Prod.fst x2 then Prod.fst x5 else Prod.fst x2)]] ≠ [], 8 ≤ 140737488355328]) := by kernel_rfl

theorem dev_w0_p2 (a : List D) (b : List D) (i : Nat) (k : Nat) (x2 : D) (x5 : D) : loopStep P G none 0 (loopAt P 33 0) (devSt0 a b i k) [Orc.val (some 11) (int (↑(List.length a) : Int)), Orc.br true, Orc.br true, Orc.val (some 21) (int (↑(List.length a) : Int)), Orc.br true, Orc.elem (enc x2), Orc.val (some 30) (int (↑(List.length b) : Int)), Orc.br true, Orc.elem (enc x5), Orc.val (some 41) (int (↑(List.length a) : Int)), Orc.br true, Orc.elem (enc x2), Orc.br true, Orc.val (some 53) (int (↑(i + 1) : Int)), Orc.val (some 56) (int (↑(List.length b) : Int)), Orc.br true, Orc.elem (enc x5), Orc.br false] (others 74 [0, 1, 4, 5, 6, 7]) 1 =
    some ({ env := slots 74 [(0, AV.sl 2 false (encs a)), (1, AV.sl 2 false (encs b)), (4, nilS), (5, AV.own 0 0 0 (List.length [if Prod.fst x5 < Prod.fst x2 then Prod.fst x5 else Prod.fst x2])), (6, int (↑(i + 1) : Int)), (7, int (↑k : Int))], H := [AObj.arr 0 1 false (ints [if Prod.fst x5 < Prod.fst x2 then Prod.fst x5 else Prod.fst x2])] }, [Am.Sub (int (↑(List.length (encs a)) : Int)) (int (↑(List.length a) : Int)), decide ((↑i : Int) < (↑(List.length a) : Int)) = true, true = true, Am.Sub (int (↑(List.length (encs a)) : Int)) (int (↑(List.length a) : Int)), decide ((↑i : Int) < (↑(List.length a) : Int)) = true, 0 ≤ (↑i : Int) ∧ (encs a)[Int.toNat (↑i : Int)]? = some (enc x2), Am.Sub (int (↑(List.length (encs b)) : Int)) (int (↑(List.length b) : Int)), decide ((↑k : Int) < (↑(List.length b) : Int)) = true, 0 ≤ (↑k : Int) ∧ (encs b)[Int.toNat (↑k : Int)]? = some (enc x5), Am.Sub (int (↑(List.length (encs a)) : Int)) (int (↑(List.length a) : Int)), decide ((↑i : Int) < (↑(List.length a) : Int)) = true, 0 ≤ (↑i : Int) ∧ (encs a)[Int.toNat (↑i : Int)]? = some (enc x2), (Prod.fst x2 == if Prod.fst x5 < Prod.fst x2 then Prod.fst x5 else Prod.fst x2) = true, Am.Sub (int (IntKind.wrap IntKind.i64 ((↑i : Int) + 1))) (int (↑(i + 1) : Int)), Am.Sub (int (↑(List.length (encs b)) : Int)) (int (↑(List.length b) : Int)), decide ((↑k : Int) < (↑(List.length b) : Int)) = true, 0 ≤ (↑k : Int) ∧ (encs b)[Int.toNat (↑k : Int)]? = some (enc x5), (Prod.fst x5 == if Prod.fst x5 < Prod.fst x2 then Prod.fst x5 else Prod.fst x2) = false, [[int (if Prod.fst x5 < Prod.fst x2 then Prod.fst x5 else Prod.fst x2)]] ≠ [], 8 ≤ 140737488355328]) := by kernel_rfl

theorem dev_w0_p3 (a : List D) (b : List D) (i : Nat) (k : Nat) (x2 : D) (x5 : D) : loopStep P G none 0 (loopAt P 33 0) (devSt0 a b i k) [Orc.val (some 11) (int (↑(List.length a) : Int)), Orc.br true, Orc.br true, Orc.val (some 21) (int (↑(List.length a) : Int)), Orc.br true, Orc.elem (enc x2), Orc.val (some 30) (int (↑(List.length b) : Int)), Orc.br true, Orc.elem (enc x5), Orc.val (some 41) (int (↑(List.length a) : Int)), Orc.br true, Orc.elem (enc x2), Orc.br false, Orc.val (some 56) (int (↑(List.length b) : Int)), Orc.br true, Orc.elem (enc x5), Orc.br true, Orc.val (some 68) (int (↑(k + 1) : Int))] (others 74 [0, 1, 4, 5, 6, 7]) 1 =
    some ({ env := slots 74 [(0, AV.sl 2 false (encs a)), (1, AV.sl 2 false (encs b)), (4, nilS), (5, AV.own 0 0 0 (List.length [if Prod.fst x5 < Prod.fst x2 then Prod.fst x5 else Prod.fst x2])), (6, int (↑i : Int)), (7, int (↑(k + 1) : Int))], H := [AObj.arr 0 1 false (ints [if Prod.fst x5 < Prod.fst x2 then Prod.fst x5 else Prod.fst x2])] }, [Am.Sub (int (↑(List.length (encs a)) : Int)) (int (↑(List.length a) : Int)), decide ((↑i : Int) < (↑(List.length a) : Int)) = true, true = true, Am.Sub (int (↑(List.length (encs a)) : Int)) (int (↑(List.length a) : Int)), decide ((↑i : Int) < (↑(List.length a) : Int)) = true, 0 ≤ (↑i : Int) ∧ (encs a)[Int.toNat (↑i : Int)]? = some (enc x2), Am.Sub (int (↑(List.length (encs b)) : Int)) (int (↑(List.length b) : Int)), decide ((↑k : Int) < (↑(List.length b) : Int)) = true, 0 ≤ (↑k : Int) ∧ (encs b)[Int.toNat (↑k : Int)]? = some (enc x5), Am.Sub (int (↑(List.length (encs a)) : Int)) (int (↑(List.length a) : Int)), decide ((↑i : Int) < (↑(List.length a) : Int)) = true, 0 ≤ (↑i : Int) ∧ (encs a)[Int.toNat (↑i : Int)]? = some (enc x2), (Prod.fst x2 == if Prod.fst x5 < Prod.fst x2 then Prod.fst x5 else Prod.fst x2) = false, Am.Sub (int (↑(List.length (encs b)) : Int)) (int (↑(List.length b) : Int)), decide ((↑k : Int) < (↑(List.length b) : Int)) = true, 0 ≤ (↑k : Int) ∧ (encs b)[Int.toNat (↑k : Int)]? = some (enc x5), (Prod.fst x5 == if Prod.fst x5 < Prod.fst x2 then Prod.fst x5 else Prod.fst x2) = true, Am.Sub (int (IntKind.wrap IntKind.i64 ((↑k : Int) + 1))) (int (↑(k + 1) : Int)), [[int (if Prod.fst x5 < Prod.fst x2 then Prod.fst x5 else Prod.fst x2)]] ≠ [], 8 ≤ 140737488355328]) := by kernel_rfl

theorem dev_w0_p4 (a : List D) (b : List D) (i : Nat) (k : Nat) (x2 : D) : loopStep P G none 0 (loopAt P 33 0) (devSt0 a b i k) [Orc.val (some 11) (int (↑(List.length a) : Int)), Orc.br true, Orc.br true, Orc.val (some 21) (int (↑(List.length a) : Int)), Orc.br true, Orc.elem (enc x2), Orc.val (some 30) (int (↑(List.length b) : Int)), Orc.br false, Orc.val (some 41) (int (↑(List.length a) : Int)), Orc.br true, Orc.elem (enc x2), Orc.br true, Orc.val (some 53) (int (↑(i + 1) : Int)), Orc.val (some 56) (int (↑(List.length b) : Int)), Orc.br false, Orc.br false] (others 74 [0, 1, 4, 5, 6, 7]) 1 =
    some ({ env := slots 74 [(0, AV.sl 2 false (encs a)), (1, AV.sl 2 false (encs b)), (4, nilS), (5, AV.own 0 0 0 (List.length [Prod.fst x2])), (6, int (↑(i + 1) : Int)), (7, int (↑k : Int))], H := [AObj.arr 0 1 false (ints [Prod.fst x2])] }, [Am.Sub (int (↑(List.length (encs a)) : Int)) (int (↑(List.length a) : Int)), decide ((↑i : Int) < (↑(List.length a) : Int)) = true, true = true, Am.Sub (int (↑(List.length (encs a)) : Int)) (int (↑(List.length a) : Int)), decide ((↑i : Int) < (↑(List.length a) : Int)) = true, 0 ≤ (↑i : Int) ∧ (encs a)[Int.toNat (↑i : Int)]? = some (enc x2), Am.Sub (int (↑(List.length (encs b)) : Int)) (int (↑(List.length b) : Int)), decide ((↑k : Int) < (↑(List.length b) : Int)) = false, Am.Sub (int (↑(List.length (encs a)) : Int)) (int (↑(List.length a) : Int)), decide ((↑i : Int) < (↑(List.length a) : Int)) = true, 0 ≤ (↑i : Int) ∧ (encs a)[Int.toNat (↑i : Int)]? = some (enc x2), (Prod.fst x2 == Prod.fst x2) = true, Am.Sub (int (IntKind.wrap IntKind.i64 ((↑i : Int) + 1))) (int (↑(i + 1) : Int)), Am.Sub (int (↑(List.length (encs b)) : Int)) (int (↑(List.length b) : Int)), decide ((↑k : Int) < (↑(List.length b) : Int)) = false, false = false, [[int (Prod.fst x2)]] ≠ [], 8 ≤ 140737488355328]) := by kernel_rfl

theorem dev_w0_p5 (a : List D) (b : List D) (i : Nat) (k : Nat) (x12 : D) : loopStep P G none 0 (loopAt P 33 0) (devSt0 a b i k) [Orc.val (some 11) (int (↑(List.length a) : Int)), Orc.br false, Orc.val (some 16) (int (↑(List.length b) : Int)), Orc.br true, Orc.val (some 21) (int (↑(List.length a) : Int)), Orc.br false, Orc.val (some 30) (int (↑(List.length b) : Int)), Orc.br true, Orc.elem (enc x12), Orc.val (some 41) (int (↑(List.length a) : Int)), Orc.br false, Orc.br false, Orc.val (some 56) (int (↑(List.length b) : Int)), Orc.br true, Orc.elem (enc x12), Orc.br true, Orc.val (some 68) (int (↑(k + 1) : Int))] (others 74 [0, 1, 4, 5, 6, 7]) 1 =
    some ({ env := slots 74 [(0, AV.sl 2 false (encs a)), (1, AV.sl 2 false (encs b)), (4, nilS), (5, AV.own 0 0 0 (List.length [if Prod.fst x12 < 512 then Prod.fst x12 else 512])), (6, int (↑i : Int)), (7, int (↑(k + 1) : Int))], H := [AObj.arr 0 1 false (ints [if Prod.fst x12 < 512 then Prod.fst x12 else 512])] }, [Am.Sub (int (↑(List.length (encs a)) : Int)) (int (↑(List.length a) : Int)), decide ((↑i : Int) < (↑(List.length a) : Int)) = false, Am.Sub (int (↑(List.length (encs b)) : Int)) (int (↑(List.length b) : Int)), decide ((↑k : Int) < (↑(List.length b) : Int)) = true, Am.Sub (int (↑(List.length (encs a)) : Int)) (int (↑(List.length a) : Int)), decide ((↑i : Int) < (↑(List.length a) : Int)) = false, Am.Sub (int (↑(List.length (encs b)) : Int)) (int (↑(List.length b) : Int)), decide ((↑k : Int) < (↑(List.length b) : Int)) = true, 0 ≤ (↑k : Int) ∧ (encs b)[Int.toNat (↑k : Int)]? = some (enc x12), Am.Sub (int (↑(List.length (encs a)) : Int)) (int (↑(List.length a) : Int)), decide ((↑i : Int) < (↑(List.length a) : Int)) = false, false = false, Am.Sub (int (↑(List.length (encs b)) : Int)) (int (↑(List.length b) : Int)), decide ((↑k : Int) < (↑(List.length b) : Int)) = true, 0 ≤ (↑k : Int) ∧ (encs b)[Int.toNat (↑k : Int)]? = some (enc x12), (Prod.fst x12 == if Prod.fst x12 < 512 then Prod.fst x12 else 512) = true, Am.Sub (int (IntKind.wrap IntKind.i64 ((↑k : Int) + 1))) (int (↑(k + 1) : Int)), [[int (if Prod.fst x12 < 512 then Prod.fst x12 else 512)]] ≠ [], 8 ≤ 140737488355328]) := by kernel_rfl

theorem dev_w0_p6 (a : List D) (b : List D) (i : Nat) (k : Nat) (x12 : D) : loopStep P G none 0 (loopAt P 33 0) (devSt0 a b i k) [Orc.val (some 11) (int (↑(List.length a) : Int)), Orc.br false, Orc.val (some 16) (int (↑(List.length b) : Int)), Orc.br true, Orc.val (some 21) (int (↑(List.length a) : Int)), Orc.br false, Orc.val (some 30) (int (↑(List.length b) : Int)), Orc.br true, Orc.elem (enc x12), Orc.val (some 41) (int (↑(List.length a) : Int)), Orc.br false, Orc.br false, Orc.val (some 56) (int (↑(List.length b) : Int)), Orc.br true, Orc.elem (enc x12), Orc.br false] (others 74 [0, 1, 4, 5, 6, 7]) 1 =
    some ({ env := slots 74 [(0, AV.sl 2 false (encs a)), (1, AV.sl 2 false (encs b)), (4, nilS), (5, AV.own 0 0 0 (List.length [if Prod.fst x12 < 512 then Prod.fst x12 else 512])), (6, int (↑i : Int)), (7, int (↑k : Int))], H := [AObj.arr 0 1 false (ints [if Prod.fst x12 < 512 then Prod.fst x12 else 512])] }, [Am.Sub (int (↑(List.length (encs a)) : Int)) (int (↑(List.length a) : Int)), decide ((↑i : Int) < (↑(List.length a) : Int)) = false, Am.Sub (int (↑(List.length (encs b)) : Int)) (int (↑(List.length b) : Int)), decide ((↑k : Int) < (↑(List.length b) : Int)) = true, Am.Sub (int (↑(List.length (encs a)) : Int)) (int (↑(List.length a) : Int)), decide ((↑i : Int) < (↑(List.length a) : Int)) = false, Am.Sub (int (↑(List.length (encs b)) : Int)) (int (↑(List.length b) : Int)), decide ((↑k : Int) < (↑(List.length b) : Int)) = true, 0 ≤ (↑k : Int) ∧ (encs b)[Int.toNat (↑k : Int)]? = some (enc x12), Am.Sub (int (↑(List.length (encs a)) : Int)) (int (↑(List.length a) : Int)), decide ((↑i : Int) < (↑(List.length a) : Int)) = false, false = false, Am.Sub (int (↑(List.length (encs b)) : Int)) (int (↑(List.length b) : Int)), decide ((↑k : Int) < (↑(List.length b) : Int)) = true, 0 ≤ (↑k : Int) ∧ (encs b)[Int.toNat (↑k : Int)]? = some (enc x12), (Prod.fst x12 == if Prod.fst x12 < 512 then Prod.fst x12 else 512) = false, [[int (if Prod.fst x12 < 512 then Prod.fst x12 else 512)]] ≠ [], 8 ≤ 140737488355328]) := by kernel_rfl

theorem dev_w0_p7 (a : List D) (b : List D) (i : Nat) (k : Nat) : loopExit P G none 0 (loopAt P 33 0) (devSt0 a b i k) [Orc.val (some 11) (int (↑(List.length a) : Int)), Orc.br false, Orc.val (some 16) (int (↑(List.length b) : Int)), Orc.br false] (others 74 [5]) 0 =
    some (AEx.exit 0, { env := slots 74 [(5, nilS)], H := [] }, [Am.Sub (int (↑(List.length (encs a)) : Int)) (int (↑(List.length a) : Int)), decide ((↑i : Int) < (↑(List.length a) : Int)) = false, Am.Sub (int (↑(List.length (encs b)) : Int)) (int (↑(List.length b) : Int)), decide ((↑k : Int) < (↑(List.length b) : Int)) = false]) := by kernel_rfl

theorem dev_w0 (a b : List D) (i k : Nat) (ha : a.length ≤ 1000000000) (hb : b.length ≤ 1000000000) (ex : AEx) (s' : St) (h : ((((↑i : Int) < (↑(List.length a) : Int)) → (∃ x2 : D, (a[i]? = some x2) ∧ ((((↑k : Int) < (↑(List.length b) : Int)) → (∃ x5 : D, (b[k]? = some x5) ∧ (((Prod.fst x2 = if Prod.fst x5 < Prod.fst x2 then Prod.fst x5 else Prod.fst x2) → (((Prod.fst x5 = if Prod.fst x5 < Prod.fst x2 then Prod.fst x5 else Prod.fst x2) → RunL P G none 0 (loopAt P 33 0) { env := slots 74 [(0, AV.sl 2 false (encs a)), (1, AV.sl 2 false (encs b)), (4, nilS), (5, AV.own 0 0 0 (List.length [if Prod.fst x5 < Prod.fst x2 then Prod.fst x5 else Prod.fst x2])), (6, int (↑(i + 1) : Int)), (7, int (↑(k + 1) : Int))], H := [AObj.arr 0 1 false (ints [if Prod.fst x5 < Prod.fst x2 then Prod.fst x5 else Prod.fst x2])] } ex s') ∧ ((¬Prod.fst x5 = if Prod.fst x5 < Prod.fst x2 then Prod.fst x5 else Prod.fst x2) → RunL P G none 0 (loopAt P 33 0) { env := slots 74 [(0, AV.sl 2 false (encs a)), (1, AV.sl 2 false (encs b)), (4, nilS), (5, AV.own 0 0 0 (List.length [if Prod.fst x5 < Prod.fst x2 then Prod.fst x5 else Prod.fst x2])), (6, int (↑(i + 1) : Int)), (7, int (↑k : Int))], H := [AObj.arr 0 1 false (ints [if Prod.fst x5 < Prod.fst x2 then Prod.fst x5 else Prod.fst x2])] } ex s'))) ∧ ((¬Prod.fst x2 = if Prod.fst x5 < Prod.fst x2 then Prod.fst x5 else Prod.fst x2) → RunL P G none 0 (loopAt P 33 0) { env := slots 74 [(0, AV.sl 2 false (encs a)), (1, AV.sl 2 false (encs b)), (4, nilS), (5, AV.own 0 0 0 (List.length [if Prod.fst x5 < Prod.fst x2 then Prod.fst x5 else Prod.fst x2])), (6, int (↑i : Int)), (7, int (↑(k + 1) : Int))], H := [AObj.arr 0 1 false (ints [if Prod.fst x5 < Prod.fst x2 then Prod.fst x5 else Prod.fst x2])] } ex s')))) ∧ ((¬(↑k : Int) < (↑(List.length b) : Int)) → RunL P G none 0 (loopAt P 33 0) { env := slots 74 [(0, AV.sl 2 false (encs a)), (1, AV.sl 2 false (encs b)), (4, nilS), (5, AV.own 0 0 0 (List.length [Prod.fst x2])), (6, int (↑(i + 1) : Int)), (7, int (↑k : Int))], H := [AObj.arr 0 1 false (ints [Prod.fst x2])] } ex s')))) ∧ ((¬(↑i : Int) < (↑(List.length a) : Int)) → ((((↑k : Int) < (↑(List.length b) : Int)) → (∃ x12 : D, (b[k]? = some x12) ∧ (((Prod.fst x12 = if Prod.fst x12 < 512 then Prod.fst x12 else 512) → RunL P G none 0 (loopAt P 33 0) { env := slots 74 [(0, AV.sl 2 false (encs a)), (1, AV.sl 2 false (encs b)), (4, nilS), (5, AV.own 0 0 0 (List.length [if Prod.fst x12 < 512 then Prod.fst x12 else 512])), (6, int (↑i : Int)), (7, int (↑(k + 1) : Int))], H := [AObj.arr 0 1 false (ints [if Prod.fst x12 < 512 then Prod.fst x12 else 512])] } ex s') ∧ ((¬Prod.fst x12 = if Prod.fst x12 < 512 then Prod.fst x12 else 512) → RunL P G none 0 (loopAt P 33 0) { env := slots 74 [(0, AV.sl 2 false (encs a)), (1, AV.sl 2 false (encs b)), (4, nilS), (5, AV.own 0 0 0 (List.length [if Prod.fst x12 < 512 then Prod.fst x12 else 512])), (6, int (↑i : Int)), (7, int (↑k : Int))], H := [AObj.arr 0 1 false (ints [if Prod.fst x12 < 512 then Prod.fst x12 else 512])] } ex s')))) ∧ ((¬(↑k : Int) < (↑(List.length b) : Int)) → (AEx.exit 0 = ex) ∧ ({ env := slots 74 [(5, nilS)], H := [] } = s')))))) : RunL P G none 0 (loopAt P 33 0) (devSt0 a b i k) ex s' := by
  by_cases c1 : ((↑i : Int) < (↑(List.length a) : Int))
  · have h := h.1 c1
    obtain ⟨x2, o3, h⟩ := h
    by_cases c4 : ((↑k : Int) < (↑(List.length b) : Int))
    · have h := h.1 c4
      obtain ⟨x5, o6, h⟩ := h
      by_cases c7 : (Prod.fst x2 = if Prod.fst x5 < Prod.fst x2 then Prod.fst x5 else Prod.fst x2)
      · have h := h.1 c7
        by_cases c8 : (Prod.fst x5 = if Prod.fst x5 < Prod.fst x2 then Prod.fst x5 else Prod.fst x2)
        · have h := h.1 c8
          exact RunL.next _ _ _ (dev_w0_p1 a b i k x2 x5) ⟨Sub.of_eq (by simp only [Go.Vec.encs_length]), (decide_eq_true c1), (rfl), Sub.of_eq (by simp only [Go.Vec.encs_length]), (decide_eq_true c1), (el_nat o3), Sub.of_eq (by simp only [Go.Vec.encs_length]), (decide_eq_true c4), (el_nat o6), Sub.of_eq (by simp only [Go.Vec.encs_length]), (decide_eq_true c1), (el_nat o3), (beq_iff_eq.2 c7), Sub.of_wrap (by omega) (by omega) (by omega), Sub.of_eq (by simp only [Go.Vec.encs_length]), (decide_eq_true c4), (el_nat o6), (beq_iff_eq.2 c8), Sub.of_wrap (by omega) (by omega) (by omega), (by simp), (by omega), trivial⟩ h
        · have h := h.2 c8
          exact RunL.next _ _ _ (dev_w0_p2 a b i k x2 x5) ⟨Sub.of_eq (by simp only [Go.Vec.encs_length]), (decide_eq_true c1), (rfl), Sub.of_eq (by simp only [Go.Vec.encs_length]), (decide_eq_true c1), (el_nat o3), Sub.of_eq (by simp only [Go.Vec.encs_length]), (decide_eq_true c4), (el_nat o6), Sub.of_eq (by simp only [Go.Vec.encs_length]), (decide_eq_true c1), (el_nat o3), (beq_iff_eq.2 c7), Sub.of_wrap (by omega) (by omega) (by omega), Sub.of_eq (by simp only [Go.Vec.encs_length]), (decide_eq_true c4), (el_nat o6), (beq_eq_false_iff_ne.2 c8), (by simp), (by omega), trivial⟩ h
      · have h := h.2 c7
        exact RunL.next _ _ _ (dev_w0_p3 a b i k x2 x5) ⟨Sub.of_eq (by simp only [Go.Vec.encs_length]), (decide_eq_true c1), (rfl), Sub.of_eq (by simp only [Go.Vec.encs_length]), (decide_eq_true c1), (el_nat o3), Sub.of_eq (by simp only [Go.Vec.encs_length]), (decide_eq_true c4), (el_nat o6), Sub.of_eq (by simp only [Go.Vec.encs_length]), (decide_eq_true c1), (el_nat o3), (beq_eq_false_iff_ne.2 c7), Sub.of_eq (by simp only [Go.Vec.encs_length]), (decide_eq_true c4), (el_nat o6), (decide_eq_true (by omega)), Sub.of_wrap (by omega) (by omega) (by omega), (by simp), (by omega), trivial⟩ h
    · have h := h.2 c4
      exact RunL.next _ _ _ (dev_w0_p4 a b i k x2) ⟨Sub.of_eq (by simp only [Go.Vec.encs_length]), (decide_eq_true c1), (rfl), Sub.of_eq (by simp only [Go.Vec.encs_length]), (decide_eq_true c1), (el_nat o3), Sub.of_eq (by simp only [Go.Vec.encs_length]), (decide_eq_false c4), Sub.of_eq (by simp only [Go.Vec.encs_length]), (decide_eq_true c1), (el_nat o3), (decide_eq_true (by omega)), Sub.of_wrap (by omega) (by omega) (by omega), Sub.of_eq (by simp only [Go.Vec.encs_length]), (decide_eq_false c4), (rfl), (by simp), (by omega), trivial⟩ h
  · have h := h.2 c1
    by_cases c11 : ((↑k : Int) < (↑(List.length b) : Int))
    · have h := h.1 c11
      obtain ⟨x12, o13, h⟩ := h
      by_cases c14 : (Prod.fst x12 = if Prod.fst x12 < 512 then Prod.fst x12 else 512)
      · have h := h.1 c14
        exact RunL.next _ _ _ (dev_w0_p5 a b i k x12) ⟨Sub.of_eq (by simp only [Go.Vec.encs_length]), (decide_eq_false c1), Sub.of_eq (by simp only [Go.Vec.encs_length]), (decide_eq_true c11), Sub.of_eq (by simp only [Go.Vec.encs_length]), (decide_eq_false c1), Sub.of_eq (by simp only [Go.Vec.encs_length]), (decide_eq_true c11), (el_nat o13), Sub.of_eq (by simp only [Go.Vec.encs_length]), (decide_eq_false c1), (rfl), Sub.of_eq (by simp only [Go.Vec.encs_length]), (decide_eq_true c11), (el_nat o13), (beq_iff_eq.2 c14), Sub.of_wrap (by omega) (by omega) (by omega), (by simp), (by omega), trivial⟩ h
      · have h := h.2 c14
        exact RunL.next _ _ _ (dev_w0_p6 a b i k x12) ⟨Sub.of_eq (by simp only [Go.Vec.encs_length]), (decide_eq_false c1), Sub.of_eq (by simp only [Go.Vec.encs_length]), (decide_eq_true c11), Sub.of_eq (by simp only [Go.Vec.encs_length]), (decide_eq_false c1), Sub.of_eq (by simp only [Go.Vec.encs_length]), (decide_eq_true c11), (el_nat o13), Sub.of_eq (by simp only [Go.Vec.encs_length]), (decide_eq_false c1), (rfl), Sub.of_eq (by simp only [Go.Vec.encs_length]), (decide_eq_true c11), (el_nat o13), (beq_eq_false_iff_ne.2 c14), (by simp), (by omega), trivial⟩ h
    · have h := h.2 c11
      obtain ⟨eX, eS⟩ := h
      exact RunL.to (RunL.exit _ _ _ (dev_w0_p7 a b i k) ⟨Sub.of_eq (by simp only [Go.Vec.encs_length]), (decide_eq_false c1), Sub.of_eq (by simp only [Go.Vec.encs_length]), (decide_eq_false c11), trivial⟩) eX (SubS.of_eq eS)


theorem dev_w1_p1 (a : List D) (b : List D) (i : Nat) (k : Nat) (g : Nat) (l : List Int) (x2 : D) (x5 : D) : loopStep P G none 0 (loopAt P 33 0) (devSt1 a b i k g l) [Orc.val (some 11) (int (↑(List.length a) : Int)), Orc.br true, Orc.br true, Orc.val (some 21) (int (↑(List.length a) : Int)), Orc.br true, Orc.elem (enc x2), Orc.val (some 30) (int (↑(List.length b) : Int)), Orc.br true, Orc.elem (enc x5), Orc.val (some 41) (int (↑(List.length a) : Int)), Orc.br true, Orc.elem (enc x2), Orc.br true, Orc.val (some 53) (int (↑(i + 1) : Int)), Orc.val (some 56) (int (↑(List.length b) : Int)), Orc.br true, Orc.elem (enc x5), Orc.br true, Orc.val (some 68) (int (↑(k + 1) : Int)), Orc.hp (some 72) (AV.own 0 (g + 1) 0 (List.length (l ++ [if Prod.fst x5 < Prod.fst x2 then Prod.fst x5 else Prod.fst x2]))) [AObj.arr (g + 1) 1 false (ints (l ++ [if Prod.fst x5 < Prod.fst x2 then Prod.fst x5 else Prod.fst x2]))]] (others 74 [0, 1, 4, 5, 6, 7]) 1 =
    some ({ env := slots 74 [(0, AV.sl 2 false (encs a)), (1, AV.sl 2 false (encs b)), (4, nilS), (5, AV.own 0 (g + 1) 0 (List.length (l ++ [if Prod.fst x5 < Prod.fst x2 then Prod.fst x5 else Prod.fst x2]))), (6, int (↑(i + 1) : Int)), (7, int (↑(k + 1) : Int))], H := [AObj.arr (g + 1) 1 false (ints (l ++ [if Prod.fst x5 < Prod.fst x2 then Prod.fst x5 else Prod.fst x2]))] }, [Am.Sub (int (↑(List.length (encs a)) : Int)) (int (↑(List.length a) : Int)), decide ((↑i : Int) < (↑(List.length a) : Int)) = true, true = true, Am.Sub (int (↑(List.length (encs a)) : Int)) (int (↑(List.length a) : Int)), decide ((↑i : Int) < (↑(List.length a) : Int)) = true, 0 ≤ (↑i : Int) ∧ (encs a)[Int.toNat (↑i : Int)]? = some (enc x2), Am.Sub (int (↑(List.length (encs b)) : Int)) (int (↑(List.length b) : Int)), decide ((↑k : Int) < (↑(List.length b) : Int)) = true, 0 ≤ (↑k : Int) ∧ (encs b)[Int.toNat (↑k : Int)]? = some (enc x5), Am.Sub (int (↑(List.length (encs a)) : Int)) (int (↑(List.length a) : Int)), decide ((↑i : Int) < (↑(List.length a) : Int)) = true, 0 ≤ (↑i : Int) ∧ (encs a)[Int.toNat (↑i : Int)]? = some (enc x2), (Prod.fst x2 == if Prod.fst x5 < Prod.fst x2 then Prod.fst x5 else Prod.fst x2) = true, Am.Sub (int (IntKind.wrap IntKind.i64 ((↑i : Int) + 1))) (int (↑(i + 1) : Int)), Am.Sub (int (↑(List.length (encs b)) : Int)) (int (↑(List.length b) : Int)), decide ((↑k : Int) < (↑(List.length b) : Int)) = true, 0 ≤ (↑k : Int) ∧ (encs b)[Int.toNat (↑k : Int)]? = some (enc x5), (Prod.fst x5 == if Prod.fst x5 < Prod.fst x2 then Prod.fst x5 else Prod.fst x2) = true, Am.Sub (int (IntKind.wrap IntKind.i64 ((↑k : Int) + 1))) (int (↑(k + 1) : Int)), Am.Sub (AV.own 0 (g + 1) 0 (List.length l + 1)) (AV.own 0 (g + 1) 0 (List.length (l ++ [if Prod.fst x5 < Prod.fst x2 then Prod.fst x5 else Prod.fst x2]))), Am.HSub [AObj.arr (g + 1) 1 false (ints l ++ [[int (if Prod.fst x5 < Prod.fst x2 then Prod.fst x5 else Prod.fst x2)]])] [AObj.arr (g + 1) 1 false (ints (l ++ [if Prod.fst x5 < Prod.fst x2 then Prod.fst x5 else Prod.fst x2]))], g = g, List.length l = List.length (ints l), (List.length l + 1) * 8 ≤ 140737488355328]) := by kernel_rfl

theorem dev_w1_p2 (a : List D) (b : List D) (i : Nat) (k : Nat) (g : Nat) (l : List Int) (x2 : D) (x5 : D) : loopStep P G none 0 (loopAt P 33 0) (devSt1 a b i k g l) [Orc.val (some 11) (int (↑(List.length a) : Int)), Orc.br true, Orc.br true, Orc.val (some 21) (int (↑(List.length a) : Int)), Orc.br true, Orc.elem (enc x2), Orc.val (some 30) (int (↑(List.length b) : Int)), Orc.br true, Orc.elem (enc x5), Orc.val (some 41) (int (↑(List.length a) : Int)), Orc.br true, Orc.elem (enc x2), Orc.br true, Orc.val (some 53) (int (↑(i + 1) : Int)), Orc.val (some 56) (int (↑(List.length b) : Int)), Orc.br true, Orc.elem (enc x5), Orc.br false, Orc.hp (some 72) (AV.own 0 (g + 1) 0 (List.length (l ++ [if Prod.fst x5 < Prod.fst x2 then Prod.fst x5 else Prod.fst x2]))) [AObj.arr (g + 1) 1 false (ints (l ++ [if Prod.fst x5 < Prod.fst x2 then Prod.fst x5 else Prod.fst x2]))]] (others 74 [0, 1, 4, 5, 6, 7]) 1 =
    some ({ env := slots 74 [(0, AV.sl 2 false (encs a)), (1, AV.sl 2 false (encs b)), (4, nilS), (5, AV.own 0 (g + 1) 0 (List.length (l ++ [if Prod.fst x5 < Prod.fst x2 then Prod.fst x5 else Prod.fst x2]))), (6, int (↑(i + 1) : Int)), (7, int (↑k : Int))], H := [AObj.arr (g + 1) 1 false (ints (l ++ [if Prod.fst x5 < Prod.fst x2 then Prod.fst x5 else Prod.fst x2]))] }, [Am.Sub (int (↑(List.length (encs a)) : Int)) (int (↑(List.length a) : Int)), decide ((↑i : Int) < (↑(List.length a) : Int)) = true, true = true, Am.Sub (int (↑(List.length (encs a)) : Int)) (int (↑(List.length a) : Int)), decide ((↑i : Int) < (↑(List.length a) : Int)) = true, 0 ≤ (↑i : Int) ∧ (encs a)[Int.toNat (↑i : Int)]? = some (enc x2), Am.Sub (int (↑(List.length (encs b)) : Int)) (int (↑(List.length b) : Int)), decide ((↑k : Int) < (↑(List.length b) : Int)) = true, 0 ≤ (↑k : Int) ∧ (encs b)[Int.toNat (↑k : Int)]? = some (enc x5), Am.Sub (int (↑(List.length (encs a)) : Int)) (int (↑(List.length a) : Int)), decide ((↑i : Int) < (↑(List.length a) : Int)) = true, 0 ≤ (↑i : Int) ∧ (encs a)[Int.toNat (↑i : Int)]? = some (enc x2), (Prod.fst x2 == if Prod.fst x5 < Prod.fst x2 then Prod.fst x5 else Prod.fst x2) = true, Am.Sub (int (IntKind.wrap IntKind.i64 ((↑i : Int) + 1))) (int (↑(i + 1) : Int)), Am.Sub (int (↑(List.length (encs b)) : Int)) (int (↑(List.length b) : Int)), decide ((↑k : Int) < (↑(List.length b) : Int)) = true, 0 ≤ (↑k : Int) ∧ (encs b)[Int.toNat (↑k : Int)]? = some (enc x5), (Prod.fst x5 == if Prod.fst x5 < Prod.fst x2 then Prod.fst x5 else Prod.fst x2) = false, Am.Sub (AV.own 0 (g + 1) 0 (List.length l + 1)) (AV.own 0 (g + 1) 0 (List.length (l ++ [if Prod.fst x5 < Prod.fst x2 then Prod.fst x5 else Prod.fst x2]))), Am.HSub [AObj.arr (g + 1) 1 false (ints l ++ [[int (if Prod.fst x5 < Prod.fst x2 then Prod.fst x5 else Prod.fst x2)]])] [AObj.arr (g + 1) 1 false (ints (l ++ [if Prod.fst x5 < Prod.fst x2 then Prod.fst x5 else Prod.fst x2]))], g = g, List.length l = List.length (ints l), (List.length l + 1) * 8 ≤ 140737488355328]) := by kernel_rfl

theorem dev_w1_p3 (a : List D) (b : List D) (i : Nat) (k : Nat) (g : Nat) (l : List Int) (x2 : D) (x5 : D) : loopStep P G none 0 (loopAt P 33 0) (devSt1 a b i k g l) [Orc.val (some 11) (int (↑(List.length a) : Int)), Orc.br true, Orc.br true, Orc.val (some 21) (int (↑(List.length a) : Int)), Orc.br true, Orc.elem (enc x2), Orc.val (some 30) (int (↑(List.length b) : Int)), Orc.br true, Orc.elem (enc x5), Orc.val (some 41) (int (↑(List.length a) : Int)), Orc.br true, Orc.elem (enc x2), Orc.br false, Orc.val (some 56) (int (↑(List.length b) : Int)), Orc.br true, Orc.elem (enc x5), Orc.br true, Orc.val (some 68) (int (↑(k + 1) : Int)), Orc.hp (some 72) (AV.own 0 (g + 1) 0 (List.length (l ++ [if Prod.fst x5 < Prod.fst x2 then Prod.fst x5 else Prod.fst x2]))) [AObj.arr (g + 1) 1 false (ints (l ++ [if Prod.fst x5 < Prod.fst x2 then Prod.fst x5 else Prod.fst x2]))]] (others 74 [0, 1, 4, 5, 6, 7]) 1 =
    some ({ env := slots 74 [(0, AV.sl 2 false (encs a)), (1, AV.sl 2 false (encs b)), (4, nilS), (5, AV.own 0 (g + 1) 0 (List.length (l ++ [if Prod.fst x5 < Prod.fst x2 then Prod.fst x5 else Prod.fst x2]))), (6, int (↑i : Int)), (7, int (↑(k + 1) : Int))], H := [AObj.arr (g + 1) 1 false (ints (l ++ [if Prod.fst x5 < Prod.fst x2 then Prod.fst x5 else Prod.fst x2]))] }, [Am.Sub (int (↑(List.length (encs a)) : Int)) (int (↑(List.length a) : Int)), decide ((↑i : Int) < (↑(List.length a) : Int)) = true, true = true, Am.Sub (int (↑(List.length (encs a)) : Int)) (int (↑(List.length a) : Int)), decide ((↑i : Int) < (↑(List.length a) : Int)) = true, 0 ≤ (↑i : Int) ∧ (encs a)[Int.toNat (↑i : Int)]? = some (enc x2), Am.Sub (int (↑(List.length (encs b)) : Int)) (int (↑(List.length b) : Int)), decide ((↑k : Int) < (↑(List.length b) : Int)) = true, 0 ≤ (↑k : Int) ∧ (encs b)[Int.toNat (↑k : Int)]? = some (enc x5), Am.Sub (int (↑(List.length (encs a)) : Int)) (int (↑(List.length a) : Int)), decide ((↑i : Int) < (↑(List.length a) : Int)) = true, 0 ≤ (↑i : Int) ∧ (encs a)[Int.toNat (↑i : Int)]? = some (enc x2), (Prod.fst x2 == if Prod.fst x5 < Prod.fst x2 then Prod.fst x5 else Prod.fst x2) = false, Am.Sub (int (↑(List.length (encs b)) : Int)) (int (↑(List.length b) : Int)), decide ((↑k : Int) < (↑(List.length b) : Int)) = true, 0 ≤ (↑k : Int) ∧ (encs b)[Int.toNat (↑k : Int)]? = some (enc x5), (Prod.fst x5 == if Prod.fst x5 < Prod.fst x2 then Prod.fst x5 else Prod.fst x2) = true, Am.Sub (int (IntKind.wrap IntKind.i64 ((↑k : Int) + 1))) (int (↑(k + 1) : Int)), Am.Sub (AV.own 0 (g + 1) 0 (List.length l + 1)) (AV.own 0 (g + 1) 0 (List.length (l ++ [if Prod.fst x5 < Prod.fst x2 then Prod.fst x5 else Prod.fst x2]))), Am.HSub [AObj.arr (g + 1) 1 false (ints l ++ [[int (if Prod.fst x5 < Prod.fst x2 then Prod.fst x5 else Prod.fst x2)]])] [AObj.arr (g + 1) 1 false (ints (l ++ [if Prod.fst x5 < Prod.fst x2 then Prod.fst x5 else Prod.fst x2]))], g = g, List.length l = List.length (ints l), (List.length l + 1) * 8 ≤ 140737488355328]) := by kernel_rfl

theorem dev_w1_p4 (a : List D) (b : List D) (i : Nat) (k : Nat) (g : Nat) (l : List Int) (x2 : D) : loopStep P G none 0 (loopAt P 33 0) (devSt1 a b i k g l) [Orc.val (some 11) (int (↑(List.length a) : Int)), Orc.br true, Orc.br true, Orc.val (some 21) (int (↑(List.length a) : Int)), Orc.br true, Orc.elem (enc x2), Orc.val (some 30) (int (↑(List.length b) : Int)), Orc.br false, Orc.val (some 41) (int (↑(List.length a) : Int)), Orc.br true, Orc.elem (enc x2), Orc.br true, Orc.val (some 53) (int (↑(i + 1) : Int)), Orc.val (some 56) (int (↑(List.length b) : Int)), Orc.br false, Orc.br false, Orc.hp (some 72) (AV.own 0 (g + 1) 0 (List.length (l ++ [Prod.fst x2]))) [AObj.arr (g + 1) 1 false (ints (l ++ [Prod.fst x2]))]] (others 74 [0, 1, 4, 5, 6, 7]) 1 =
    some ({ env := slots 74 [(0, AV.sl 2 false (encs a)), (1, AV.sl 2 false (encs b)), (4, nilS), (5, AV.own 0 (g + 1) 0 (List.length (l ++ [Prod.fst x2]))), (6, int (↑(i + 1) : Int)), (7, int (↑k : Int))], H := [AObj.arr (g + 1) 1 false (ints (l ++ [Prod.fst x2]))] }, [Am.Sub (int (↑(List.length (encs a)) : Int)) (int (↑(List.length a) : Int)), decide ((↑i : Int) < (↑(List.length a) : Int)) = true, true = true, Am.Sub (int (↑(List.length (encs a)) : Int)) (int (↑(List.length a) : Int)), decide ((↑i : Int) < (↑(List.length a) : Int)) = true, 0 ≤ (↑i : Int) ∧ (encs a)[Int.toNat (↑i : Int)]? = some (enc x2), Am.Sub (int (↑(List.length (encs b)) : Int)) (int (↑(List.length b) : Int)), decide ((↑k : Int) < (↑(List.length b) : Int)) = false, Am.Sub (int (↑(List.length (encs a)) : Int)) (int (↑(List.length a) : Int)), decide ((↑i : Int) < (↑(List.length a) : Int)) = true, 0 ≤ (↑i : Int) ∧ (encs a)[Int.toNat (↑i : Int)]? = some (enc x2), (Prod.fst x2 == Prod.fst x2) = true, Am.Sub (int (IntKind.wrap IntKind.i64 ((↑i : Int) + 1))) (int (↑(i + 1) : Int)), Am.Sub (int (↑(List.length (encs b)) : Int)) (int (↑(List.length b) : Int)), decide ((↑k : Int) < (↑(List.length b) : Int)) = false, false = false, Am.Sub (AV.own 0 (g + 1) 0 (List.length l + 1)) (AV.own 0 (g + 1) 0 (List.length (l ++ [Prod.fst x2]))), Am.HSub [AObj.arr (g + 1) 1 false (ints l ++ [[int (Prod.fst x2)]])] [AObj.arr (g + 1) 1 false (ints (l ++ [Prod.fst x2]))], g = g, List.length l = List.length (ints l), (List.length l + 1) * 8 ≤ 140737488355328]) := by kernel_rfl

theorem dev_w1_p5 (a : List D) (b : List D) (i : Nat) (k : Nat) (g : Nat) (l : List Int) (x12 : D) : loopStep P G none 0 (loopAt P 33 0) (devSt1 a b i k g l) [Orc.val (some 11) (int (↑(List.length a) : Int)), Orc.br false, Orc.val (some 16) (int (↑(List.length b) : Int)), Orc.br true, Orc.val (some 21) (int (↑(List.length a) : Int)), Orc.br false, Orc.val (some 30) (int (↑(List.length b) : Int)), Orc.br true, Orc.elem (enc x12), Orc.val (some 41) (int (↑(List.length a) : Int)), Orc.br false, Orc.br false, Orc.val (some 56) (int (↑(List.length b) : Int)), Orc.br true, Orc.elem (enc x12), Orc.br true, Orc.val (some 68) (int (↑(k + 1) : Int)), Orc.hp (some 72) (AV.own 0 (g + 1) 0 (List.length (l ++ [if Prod.fst x12 < 512 then Prod.fst x12 else 512]))) [AObj.arr (g + 1) 1 false (ints (l ++ [if Prod.fst x12 < 512 then Prod.fst x12 else 512]))]] (others 74 [0, 1, 4, 5, 6, 7]) 1 =
    some ({ env := slots 74 [(0, AV.sl 2 false (encs a)), (1, AV.sl 2 false (encs b)), (4, nilS), (5, AV.own 0 (g + 1) 0 (List.length (l ++ [if Prod.fst x12 < 512 then Prod.fst x12 else 512]))), (6, int (↑i : Int)), (7, int (↑(k + 1) : Int))], H := [AObj.arr (g + 1) 1 false (ints (l ++ [if Prod.fst x12 < 512 then Prod.fst x12 else 512]))] }, [Am.Sub (int (↑(List.length (encs a)) : Int)) (int (↑(List.length a) : Int)), decide ((↑i : Int) < (↑(List.length a) : Int)) = false, Am.Sub (int (↑(List.length (encs b)) : Int)) (int (↑(List.length b) : Int)), decide ((↑k : Int) < (↑(List.length b) : Int)) = true, Am.Sub (int (↑(List.length (encs a)) : Int)) (int (↑(List.length a) : Int)), decide ((↑i : Int) < (↑(List.length a) : Int)) = false, Am.Sub (int (↑(List.length (encs b)) : Int)) (int (↑(List.length b) : Int)), decide ((↑k : Int) < (↑(List.length b) : Int)) = true, 0 ≤ (↑k : Int) ∧ (encs b)[Int.toNat (↑k : Int)]? = some (enc x12), Am.Sub (int (↑(List.length (encs a)) : Int)) (int (↑(List.length a) : Int)), decide ((↑i : Int) < (↑(List.length a) : Int)) = false, false = false, Am.Sub (int (↑(List.length (encs b)) : Int)) (int (↑(List.length b) : Int)), decide ((↑k : Int) < (↑(List.length b) : Int)) = true, 0 ≤ (↑k : Int) ∧ (encs b)[Int.toNat (↑k : Int)]? = some (enc x12), (Prod.fst x12 == if Prod.fst x12 < 512 then Prod.fst x12 else 512) = true, Am.Sub (int (IntKind.wrap IntKind.i64 ((↑k : Int) + 1))) (int (↑(k + 1) : Int)), Am.Sub (AV.own 0 (g + 1) 0 (List.length l + 1)) (AV.own 0 (g + 1) 0 (List.length (l ++ [if Prod.fst x12 < 512 then Prod.fst x12 else 512]))), Am.HSub [AObj.arr (g + 1) 1 false (ints l ++ [[int (if Prod.fst x12 < 512 then Prod.fst x12 else 512)]])] [AObj.arr (g + 1) 1 false (ints (l ++ [if Prod.fst x12 < 512 then Prod.fst x12 else 512]))], g = g, List.length l = List.length (ints l), (List.length l + 1) * 8 ≤ 140737488355328]) := by kernel_rfl

theorem dev_w1_p6 (a : List D) (b : List D) (i : Nat) (k : Nat) (g : Nat) (l : List Int) (x12 : D) : loopStep P G none 0 (loopAt P 33 0) (devSt1 a b i k g l) [Orc.val (some 11) (int (↑(List.length a) : Int)), Orc.br false, Orc.val (some 16) (int (↑(List.length b) : Int)), Orc.br true, Orc.val (some 21) (int (↑(List.length a) : Int)), Orc.br false, Orc.val (some 30) (int (↑(List.length b) : Int)), Orc.br true, Orc.elem (enc x12), Orc.val (some 41) (int (↑(List.length a) : Int)), Orc.br false, Orc.br false, Orc.val (some 56) (int (↑(List.length b) : Int)), Orc.br true, Orc.elem (enc x12), Orc.br false, Orc.hp (some 72) (AV.own 0 (g + 1) 0 (List.length (l ++ [if Prod.fst x12 < 512 then Prod.fst x12 else 512]))) [AObj.arr (g + 1) 1 false (ints (l ++ [if Prod.fst x12 < 512 then Prod.fst x12 else 512]))]] (others 74 [0, 1, 4, 5, 6, 7]) 1 =
    some ({ env := slots 74 [(0, AV.sl 2 false (encs a)), (1, AV.sl 2 false (encs b)), (4, nilS), (5, AV.own 0 (g + 1) 0 (List.length (l ++ [if Prod.fst x12 < 512 then Prod.fst x12 else 512]))), (6, int (↑i : Int)), (7, int (↑k : Int))], H := [AObj.arr (g + 1) 1 false (ints (l ++ [if Prod.fst x12 < 512 then Prod.fst x12 else 512]))] }, [Am.Sub (int (↑(List.length (encs a)) : Int)) (int (↑(List.length a) : Int)), decide ((↑i : Int) < (↑(List.length a) : Int)) = false, Am.Sub (int (↑(List.length (encs b)) : Int)) (int (↑(List.length b) : Int)), decide ((↑k : Int) < (↑(List.length b) : Int)) = true, Am.Sub (int (↑(List.length (encs a)) : Int)) (int (↑(List.length a) : Int)), decide ((↑i : Int) < (↑(List.length a) : Int)) = false, Am.Sub (int (↑(List.length (encs b)) : Int)) (int (↑(List.length b) : Int)), decide ((↑k : Int) < (↑(List.length b) : Int)) = true, 0 ≤ (↑k : Int) ∧ (encs b)[Int.toNat (↑k : Int)]? = some (enc x12), Am.Sub (int (↑(List.length (encs a)) : Int)) (int (↑(List.length a) : Int)), decide ((↑i : Int) < (↑(List.length a) : Int)) = false, false = false, Am.Sub (int (↑(List.length (encs b)) : Int)) (int (↑(List.length b) : Int)), decide ((↑k : Int) < (↑(List.length b) : Int)) = true, 0 ≤ (↑k : Int) ∧ (encs b)[Int.toNat (↑k : Int)]? = some (enc x12), (Prod.fst x12 == if Prod.fst x12 < 512 then Prod.fst x12 else 512) = false, Am.Sub (AV.own 0 (g + 1) 0 (List.length l + 1)) (AV.own 0 (g + 1) 0 (List.length (l ++ [if Prod.fst x12 < 512 then Prod.fst x12 else 512]))), Am.HSub [AObj.arr (g + 1) 1 false (ints l ++ [[int (if Prod.fst x12 < 512 then Prod.fst x12 else 512)]])] [AObj.arr (g + 1) 1 false (ints (l ++ [if Prod.fst x12 < 512 then Prod.fst x12 else 512]))], g = g, List.length l = List.length (ints l), (List.length l + 1) * 8 ≤ 140737488355328]) := by kernel_rfl

theorem dev_w1_p7 (a : List D) (b : List D) (i : Nat) (k : Nat) (g : Nat) (l : List Int) : loopExit P G none 0 (loopAt P 33 0) (devSt1 a b i k g l) [Orc.val (some 11) (int (↑(List.length a) : Int)), Orc.br false, Orc.val (some 16) (int (↑(List.length b) : Int)), Orc.br false] (others 74 [5]) 1 =
    some (AEx.exit 0, { env := slots 74 [(5, AV.own 0 g 0 (List.length l))], H := [AObj.arr g 1 false (ints l)] }, [Am.Sub (int (↑(List.length (encs a)) : Int)) (int (↑(List.length a) : Int)), decide ((↑i : Int) < (↑(List.length a) : Int)) = false, Am.Sub (int (↑(List.length (encs b)) : Int)) (int (↑(List.length b) : Int)), decide ((↑k : Int) < (↑(List.length b) : Int)) = false]) := by kernel_rfl

theorem dev_w1 (a b : List D) (i k g : Nat) (l : List Int) (hl : l.length ≤ 2000000000) (ha : a.length ≤ 1000000000) (hb : b.length ≤ 1000000000) (ex : AEx) (s' : St) (h : ((((↑i : Int) < (↑(List.length a) : Int)) → (∃ x2 : D, (a[i]? = some x2) ∧ ((((↑k : Int) < (↑(List.length b) : Int)) → (∃ x5 : D, (b[k]? = some x5) ∧ (((Prod.fst x2 = if Prod.fst x5 < Prod.fst x2 then Prod.fst x5 else Prod.fst x2) → (((Prod.fst x5 = if Prod.fst x5 < Prod.fst x2 then Prod.fst x5 else Prod.fst x2) → RunL P G none 0 (loopAt P 33 0) { env := slots 74 [(0, AV.sl 2 false (encs a)), (1, AV.sl 2 false (encs b)), (4, nilS), (5, AV.own 0 (g + 1) 0 (List.length (l ++ [if Prod.fst x5 < Prod.fst x2 then Prod.fst x5 else Prod.fst x2]))), (6, int (↑(i + 1) : Int)), (7, int (↑(k + 1) : Int))], H := [AObj.arr (g + 1) 1 false (ints (l ++ [if Prod.fst x5 < Prod.fst x2 then Prod.fst x5 else Prod.fst x2]))] } ex s') ∧ ((¬Prod.fst x5 = if Prod.fst x5 < Prod.fst x2 then Prod.fst x5 else Prod.fst x2) → RunL P G none 0 (loopAt P 33 0) { env := slots 74 [(0, AV.sl 2 false (encs a)), (1, AV.sl 2 false (encs b)), (4, nilS), (5, AV.own 0 (g + 1) 0 (List.length (l ++ [if Prod.fst x5 < Prod.fst x2 then Prod.fst x5 else Prod.fst x2]))), (6, int (↑(i + 1) : Int)), (7, int (↑k : Int))], H := [AObj.arr (g + 1) 1 false (ints (l ++ [if Prod.fst x5 < Prod.fst x2 then Prod.fst x5 else Prod.fst x2]))] } ex s'))) ∧ ((¬Prod.fst x2 = if Prod.fst x5 < Prod.fst x2 then Prod.fst x5 else Prod.fst x2) → RunL P G none 0 (loopAt P 33 0) { env := slots 74 [(0, AV.sl 2 false (encs a)), (1, AV.sl 2 false (encs b)), (4, nilS), (5, AV.own 0 (g + 1) 0 (List.length (l ++ [if Prod.fst x5 < Prod.fst x2 then Prod.fst x5 else Prod.fst x2]))), (6, int (↑i : Int)), (7, int (↑(k + 1) : Int))], H := [AObj.arr (g + 1) 1 false (ints (l ++ [if Prod.fst x5 < Prod.fst x2 then Prod.fst x5 else Prod.fst x2]))] } ex s')))) ∧ ((¬(↑k : Int) < (↑(List.length b) : Int)) → RunL P G none 0 (loopAt P 33 0) { env := slots 74 [(0, AV.sl 2 false (encs a)), (1, AV.sl 2 false (encs b)), (4, nilS), (5, AV.own 0 (g + 1) 0 (List.length (l ++ [Prod.fst x2]))), (6, int (↑(i + 1) : Int)), (7, int (↑k : Int))], H := [AObj.arr (g + 1) 1 false (ints (l ++ [Prod.fst x2]))] } ex s')))) ∧ ((¬(↑i : Int) < (↑(List.length a) : Int)) → ((((↑k : Int) < (↑(List.length b) : Int)) → (∃ x12 : D, (b[k]? = some x12) ∧ (((Prod.fst x12 = if Prod.fst x12 < 512 then Prod.fst x12 else 512) → RunL P G none 0 (loopAt P 33 0) { env := slots 74 [(0, AV.sl 2 false (encs a)), (1, AV.sl 2 false (encs b)), (4, nilS), (5, AV.own 0 (g + 1) 0 (List.length (l ++ [if Prod.fst x12 < 512 then Prod.fst x12 else 512]))), (6, int (↑i : Int)), (7, int (↑(k + 1) : Int))], H := [AObj.arr (g + 1) 1 false (ints (l ++ [if Prod.fst x12 < 512 then Prod.fst x12 else 512]))] } ex s') ∧ ((¬Prod.fst x12 = if Prod.fst x12 < 512 then Prod.fst x12 else 512) → RunL P G none 0 (loopAt P 33 0) { env := slots 74 [(0, AV.sl 2 false (encs a)), (1, AV.sl 2 false (encs b)), (4, nilS), (5, AV.own 0 (g + 1) 0 (List.length (l ++ [if Prod.fst x12 < 512 then Prod.fst x12 else 512]))), (6, int (↑i : Int)), (7, int (↑k : Int))], H := [AObj.arr (g + 1) 1 false (ints (l ++ [if Prod.fst x12 < 512 then Prod.fst x12 else 512]))] } ex s')))) ∧ ((¬(↑k : Int) < (↑(List.length b) : Int)) → (AEx.exit 0 = ex) ∧ ({ env := slots 74 [(5, AV.own 0 g 0 (List.length l))], H := [AObj.arr g 1 false (ints l)] } = s')))))) : RunL P G none 0 (loopAt P 33 0) (devSt1 a b i k g l) ex s' := by
  by_cases c1 : ((↑i : Int) < (↑(List.length a) : Int))
  · have h := h.1 c1
    obtain ⟨x2, o3, h⟩ := h
    by_cases c4 : ((↑k : Int) < (↑(List.length b) : Int))
    · have h := h.1 c4
      obtain ⟨x5, o6, h⟩ := h
      by_cases c7 : (Prod.fst x2 = if Prod.fst x5 < Prod.fst x2 then Prod.fst x5 else Prod.fst x2)
      · have h := h.1 c7
        by_cases c8 : (Prod.fst x5 = if Prod.fst x5 < Prod.fst x2 then Prod.fst x5 else Prod.fst x2)
        · have h := h.1 c8
          exact RunL.next _ _ _ (dev_w1_p1 a b i k g l x2 x5) ⟨Sub.of_eq (by simp only [Go.Vec.encs_length]), (decide_eq_true c1), (rfl), Sub.of_eq (by simp only [Go.Vec.encs_length]), (decide_eq_true c1), (el_nat o3), Sub.of_eq (by simp only [Go.Vec.encs_length]), (decide_eq_true c4), (el_nat o6), Sub.of_eq (by simp only [Go.Vec.encs_length]), (decide_eq_true c1), (el_nat o3), (beq_iff_eq.2 c7), Sub.of_wrap (by omega) (by omega) (by omega), Sub.of_eq (by simp only [Go.Vec.encs_length]), (decide_eq_true c4), (el_nat o6), (beq_iff_eq.2 c8), Sub.of_wrap (by omega) (by omega) (by omega), Sub.of_eq (by simp), ⟨.inl (by simp only [Go.Vec.ints_append, Go.Vec.ints_one]), trivial⟩, (rfl), ((Go.Vec.ints_length _).symm), (by omega), trivial⟩ h
        · have h := h.2 c8
          exact RunL.next _ _ _ (dev_w1_p2 a b i k g l x2 x5) ⟨Sub.of_eq (by simp only [Go.Vec.encs_length]), (decide_eq_true c1), (rfl), Sub.of_eq (by simp only [Go.Vec.encs_length]), (decide_eq_true c1), (el_nat o3), Sub.of_eq (by simp only [Go.Vec.encs_length]), (decide_eq_true c4), (el_nat o6), Sub.of_eq (by simp only [Go.Vec.encs_length]), (decide_eq_true c1), (el_nat o3), (beq_iff_eq.2 c7), Sub.of_wrap (by omega) (by omega) (by omega), Sub.of_eq (by simp only [Go.Vec.encs_length]), (decide_eq_true c4), (el_nat o6), (beq_eq_false_iff_ne.2 c8), Sub.of_eq (by simp), ⟨.inl (by simp only [Go.Vec.ints_append, Go.Vec.ints_one]), trivial⟩, (rfl), ((Go.Vec.ints_length _).symm), (by omega), trivial⟩ h
      · have h := h.2 c7
        exact RunL.next _ _ _ (dev_w1_p3 a b i k g l x2 x5) ⟨Sub.of_eq (by simp only [Go.Vec.encs_length]), (decide_eq_true c1), (rfl), Sub.of_eq (by simp only [Go.Vec.encs_length]), (decide_eq_true c1), (el_nat o3), Sub.of_eq (by simp only [Go.Vec.encs_length]), (decide_eq_true c4), (el_nat o6), Sub.of_eq (by simp only [Go.Vec.encs_length]), (decide_eq_true c1), (el_nat o3), (beq_eq_false_iff_ne.2 c7), Sub.of_eq (by simp only [Go.Vec.encs_length]), (decide_eq_true c4), (el_nat o6), (decide_eq_true (by omega)), Sub.of_wrap (by omega) (by omega) (by omega), Sub.of_eq (by simp), ⟨.inl (by simp only [Go.Vec.ints_append, Go.Vec.ints_one]), trivial⟩, (rfl), ((Go.Vec.ints_length _).symm), (by omega), trivial⟩ h
    · have h := h.2 c4
      exact RunL.next _ _ _ (dev_w1_p4 a b i k g l x2) ⟨Sub.of_eq (by simp only [Go.Vec.encs_length]), (decide_eq_true c1), (rfl), Sub.of_eq (by simp only [Go.Vec.encs_length]), (decide_eq_true c1), (el_nat o3), Sub.of_eq (by simp only [Go.Vec.encs_length]), (decide_eq_false c4), Sub.of_eq (by simp only [Go.Vec.encs_length]), (decide_eq_true c1), (el_nat o3), (decide_eq_true (by omega)), Sub.of_wrap (by omega) (by omega) (by omega), Sub.of_eq (by simp only [Go.Vec.encs_length]), (decide_eq_false c4), (rfl), Sub.of_eq (by simp), ⟨.inl (by simp only [Go.Vec.ints_append, Go.Vec.ints_one]), trivial⟩, (rfl), ((Go.Vec.ints_length _).symm), (by omega), trivial⟩ h
  · have h := h.2 c1
    by_cases c11 : ((↑k : Int) < (↑(List.length b) : Int))
    · have h := h.1 c11
      obtain ⟨x12, o13, h⟩ := h
      by_cases c14 : (Prod.fst x12 = if Prod.fst x12 < 512 then Prod.fst x12 else 512)
      · have h := h.1 c14
        exact RunL.next _ _ _ (dev_w1_p5 a b i k g l x12) ⟨Sub.of_eq (by simp only [Go.Vec.encs_length]), (decide_eq_false c1), Sub.of_eq (by simp only [Go.Vec.encs_length]), (decide_eq_true c11), Sub.of_eq (by simp only [Go.Vec.encs_length]), (decide_eq_false c1), Sub.of_eq (by simp only [Go.Vec.encs_length]), (decide_eq_true c11), (el_nat o13), Sub.of_eq (by simp only [Go.Vec.encs_length]), (decide_eq_false c1), (rfl), Sub.of_eq (by simp only [Go.Vec.encs_length]), (decide_eq_true c11), (el_nat o13), (beq_iff_eq.2 c14), Sub.of_wrap (by omega) (by omega) (by omega), Sub.of_eq (by simp), ⟨.inl (by simp only [Go.Vec.ints_append, Go.Vec.ints_one]), trivial⟩, (rfl), ((Go.Vec.ints_length _).symm), (by omega), trivial⟩ h
      · have h := h.2 c14
        exact RunL.next _ _ _ (dev_w1_p6 a b i k g l x12) ⟨Sub.of_eq (by simp only [Go.Vec.encs_length]), (decide_eq_false c1), Sub.of_eq (by simp only [Go.Vec.encs_length]), (decide_eq_true c11), Sub.of_eq (by simp only [Go.Vec.encs_length]), (decide_eq_false c1), Sub.of_eq (by simp only [Go.Vec.encs_length]), (decide_eq_true c11), (el_nat o13), Sub.of_eq (by simp only [Go.Vec.encs_length]), (decide_eq_false c1), (rfl), Sub.of_eq (by simp only [Go.Vec.encs_length]), (decide_eq_true c11), (el_nat o13), (beq_eq_false_iff_ne.2 c14), Sub.of_eq (by simp), ⟨.inl (by simp only [Go.Vec.ints_append, Go.Vec.ints_one]), trivial⟩, (rfl), ((Go.Vec.ints_length _).symm), (by omega), trivial⟩ h
    · have h := h.2 c11
      obtain ⟨eX, eS⟩ := h
      exact RunL.to (RunL.exit _ _ _ (dev_w1_p7 a b i k g l) ⟨Sub.of_eq (by simp only [Go.Vec.encs_length]), (decide_eq_false c1), Sub.of_eq (by simp only [Go.Vec.encs_length]), (decide_eq_false c11), trivial⟩) eX (SubS.of_eq eS)


/-- The devices of two lists, merged; n: at least so many as both have. -/
def devN : Nat → List D → List D → List Int
  | 0, _, _ => []
  | _ + 1, [], [] => []
  | n + 1, x :: a, [] => x.1 :: devN n a []
  | n + 1, [], y :: b => y.1 :: devN n [] b
  | n + 1, x :: a, y :: b => if y.1 < x.1 then y.1 :: devN n (x :: a) b else if x.1 < y.1 then x.1 :: devN n a (y :: b) else x.1 :: devN n a b
theorem devN_len : ∀ (n : Nat) (a b : List D), (devN n a b).length ≤ n
  | 0, _, _ => Nat.le_refl _
  | _ + 1, [], [] => Nat.zero_le _
  | n + 1, x :: a, [] => by simp only [devN, List.length_cons]; have := devN_len n a []; omega
  | n + 1, [], y :: b => by simp only [devN, List.length_cons]; have := devN_len n [] b; omega
  | n + 1, x :: a, y :: b => by
    have h1 := devN_len n (x :: a) b
    have h2 := devN_len n a (y :: b)
    have h3 := devN_len n a b
    simp only [devN]
    split
    · simp only [List.length_cons]; omega
    · split <;> (simp only [List.length_cons]; omega)
def devOut (g : Nat) (l : List Int) : St := { env := slots 74 [(5, .own 0 g 0 l.length)], H := [.arr g 1 false (ints l)] }

/-- What one round does to what is left. -/
def devStep (a b : List D) (i k : Nat) (d : Int) (i' k' : Nat) : Prop := i' ≤ a.length ∧ k' ≤ b.length ∧ (a.length - i') + (b.length - k') + 1 ≤ (a.length - i) + (b.length - k) ∧
  ∀ n, devN (n + 1) (a.drop i) (b.drop k) = d :: devN n (a.drop i') (b.drop k')

theorem dev_arms {a b : List D} {i k : Nat} (hi : i ≤ a.length) (hk : k ≤ b.length) :
    (∀ x y, a[i]? = some x → b[k]? = some y → x.1 = (if y.1 < x.1 then y.1 else x.1) → y.1 = (if y.1 < x.1 then y.1 else x.1) → devStep a b i k (if y.1 < x.1 then y.1 else x.1) (i + 1) (k + 1)) ∧
    (∀ x y, a[i]? = some x → b[k]? = some y → x.1 = (if y.1 < x.1 then y.1 else x.1) → ¬ y.1 = (if y.1 < x.1 then y.1 else x.1) → devStep a b i k (if y.1 < x.1 then y.1 else x.1) (i + 1) k) ∧
    (∀ x y, a[i]? = some x → b[k]? = some y → ¬ x.1 = (if y.1 < x.1 then y.1 else x.1) → devStep a b i k (if y.1 < x.1 then y.1 else x.1) i (k + 1)) ∧
    (∀ x, a[i]? = some x → b.length ≤ k → devStep a b i k x.1 (i + 1) k) ∧
    (∀ y, a.length ≤ i → b[k]? = some y → devStep a b i k y.1 i (k + 1)) := by
  have da : ∀ {x}, a[i]? = some x → i < a.length ∧ a.drop i = x :: a.drop (i + 1) := fun h => by
    obtain ⟨h1, h2⟩ := List.getElem?_eq_some_iff.1 h
    exact ⟨h1, by rw [List.drop_eq_getElem_cons h1, h2]⟩
  have db : ∀ {y}, b[k]? = some y → k < b.length ∧ b.drop k = y :: b.drop (k + 1) := fun h => by
    obtain ⟨h1, h2⟩ := List.getElem?_eq_some_iff.1 h
    exact ⟨h1, by rw [List.drop_eq_getElem_cons h1, h2]⟩
  refine ⟨fun x y hx hy h1 h2 => ?_, fun x y hx hy h1 h2 => ?_, fun x y hx hy h1 => ?_, fun x hx hb => ?_, fun y ha hy => ?_⟩
  · obtain ⟨l1, e1⟩ := da hx
    obtain ⟨l2, e2⟩ := db hy
    refine ⟨by omega, by omega, by omega, fun n => ?_⟩
    have : ¬ y.1 < x.1 := fun h => by rw [if_pos h] at h1; omega
    rw [if_neg this] at h2 ⊢
    rw [e1, e2]
    simp only [devN]
    rw [if_neg this, if_neg (by omega)]
  · obtain ⟨l1, e1⟩ := da hx
    obtain ⟨l2, e2⟩ := db hy
    refine ⟨by omega, by omega, by omega, fun n => ?_⟩
    have : ¬ y.1 < x.1 := fun h => by rw [if_pos h] at h1; omega
    rw [if_neg this] at h2 ⊢
    rw [e1, e2]
    simp only [devN]
    rw [if_neg this, if_pos (by omega)]
  · obtain ⟨l1, e1⟩ := da hx
    obtain ⟨l2, e2⟩ := db hy
    refine ⟨by omega, by omega, by omega, fun n => ?_⟩
    have : y.1 < x.1 := by
      by_cases h : y.1 < x.1
      · exact h
      · rw [if_neg h] at h1; exact absurd rfl h1
    rw [if_pos this]
    rw [e1, e2]
    simp only [devN]
    rw [if_pos this]
  · obtain ⟨l1, e1⟩ := da hx
    refine ⟨by omega, by omega, by omega, fun n => ?_⟩
    rw [e1, List.drop_of_length_le hb]
    simp only [devN]
  · obtain ⟨l1, e1⟩ := db hy
    refine ⟨by omega, by omega, by omega, fun n => ?_⟩
    rw [e1, List.drop_of_length_le ha]
    simp only [devN]

theorem dev_loop1 (a b : List D) (ha : a.length ≤ 1000000000) (hb : b.length ≤ 1000000000) (hB : ∀ y ∈ b, y.1 < 512) : ∀ n i k g l, (a.length - i) + (b.length - k) ≤ n → i ≤ a.length → k ≤ b.length → l.length + n ≤ 2000000000 →
    RunL P G none 0 (loopAt P 33 0) (devSt1 a b i k g l) (.exit 0) (devOut (g + (devN n (a.drop i) (b.drop k)).length) (l ++ devN n (a.drop i) (b.drop k))) := by
  intro n
  induction n with
  | zero =>
    intro i k g l hn hi hk hl
    refine dev_w1 a b i k g l (by omega) ha hb _ _ ⟨fun h => absurd h (by omega), fun _ => ⟨fun h => absurd h (by omega), fun _ => ⟨rfl, ?_⟩⟩⟩
    simp [devN, devOut]
  | succ n ih =>
    intro i k g l hn hi hk hl
    obtain ⟨s1, s2, s3, s4, s5⟩ := dev_arms hi hk
    have fin : ∀ {d i' k'}, devStep a b i k d i' k' → RunL P G none 0 (loopAt P 33 0) (devSt1 a b i' k' (g + 1) (l ++ [d])) (.exit 0) (devOut (g + (devN (n + 1) (a.drop i) (b.drop k)).length) (l ++ devN (n + 1) (a.drop i) (b.drop k))) := fun {d i' k'} h => by
      have := ih i' k' (g + 1) (l ++ [d]) (by have := h.2.2.1; omega) h.1 h.2.1 (by simp; omega)
      rw [h.2.2.2 n, List.length_cons, show g + ((devN n (a.drop i') (b.drop k')).length + 1) = g + 1 + (devN n (a.drop i') (b.drop k')).length by omega, show l ++ d :: devN n (a.drop i') (b.drop k') = l ++ [d] ++ devN n (a.drop i') (b.drop k') by simp]
      exact this
    have gx : ∀ {j : Nat}, ((j : Int) < (a.length : Int)) → ∃ x, a[j]? = some x := fun h => ⟨_, List.getElem?_eq_getElem (by omega)⟩
    have gy : ∀ {j : Nat}, ((j : Int) < (b.length : Int)) → ∃ x, b[j]? = some x := fun h => ⟨_, List.getElem?_eq_getElem (by omega)⟩
    refine dev_w1 a b i k g l (by omega) ha hb _ _ ⟨fun h => ?_, fun h => ⟨fun h' => ?_, fun h' => ?_⟩⟩
    · obtain ⟨x, hx⟩ := gx h
      refine ⟨x, hx, ⟨fun h' => ?_, fun h' => fin (s4 x hx (by omega))⟩⟩
      obtain ⟨y, hy⟩ := gy h'
      exact ⟨y, hy, ⟨fun h1 => ⟨fun h2 => fin (s1 x y hx hy h1 h2), fun h2 => fin (s2 x y hx hy h1 h2)⟩, fun h1 => fin (s3 x y hx hy h1)⟩⟩
    · obtain ⟨y, hy⟩ := gy h'
      have hy5 := hB y (List.mem_of_getElem? hy)
      refine ⟨y, hy, ⟨fun h1 => ?_, fun h1 => absurd (if_pos hy5).symm h1⟩⟩
      rw [if_pos hy5]
      exact fin (s5 y (by omega) hy)
    · refine ⟨rfl, ?_⟩
      rw [List.drop_of_length_le (by omega), List.drop_of_length_le (by omega)]
      simp [devN, devOut]

def devs (a b : List D) : List Int := devN (a.length + b.length) a b

theorem dev_l (a b : List D) (ha : a.length ≤ 1000000000) (hb : b.length ≤ 1000000000) (hB : ∀ y ∈ b, y.1 < 512) :
    RunL P G none 0 (loopAt P 33 0) (devSt0 a b 0 0) (.exit 0) { env := slots 74 [(5, if devs a b = [] then nilS else .own 0 ((devs a b).length - 1) 0 (devs a b).length)], H := if devs a b = [] then [] else [.arr ((devs a b).length - 1) 1 false (ints (devs a b))] } := by
  obtain ⟨s1, s2, s3, s4, s5⟩ := dev_arms (a := a) (b := b) (i := 0) (k := 0) (by omega) (by omega)
  have fin : ∀ {d i' k'}, devStep a b 0 0 d i' k' → RunL P G none 0 (loopAt P 33 0) (devSt1 a b i' k' 0 [d]) (.exit 0) { env := slots 74 [(5, if devs a b = [] then nilS else .own 0 ((devs a b).length - 1) 0 (devs a b).length)], H := if devs a b = [] then [] else [.arr ((devs a b).length - 1) 1 false (ints (devs a b))] } := fun {d i' k'} h => by
    have h3 := h.2.2.1
    obtain ⟨n, hn⟩ : ∃ n, a.length + b.length = n + 1 := ⟨a.length + b.length - 1, by omega⟩
    have hd : devs a b = d :: devN n (a.drop i') (b.drop k') := by
      unfold devs
      rw [hn]
      have := h.2.2.2 n
      simpa using this
    have := dev_loop1 a b ha hb hB n i' k' 0 [d] (by omega) h.1 h.2.1 (by simp; omega)
    rw [Nat.zero_add, show [d] ++ devN n (a.drop i') (b.drop k') = devs a b by rw [hd]; rfl, show (devN n (a.drop i') (b.drop k')).length = (devs a b).length - 1 by rw [hd]; simp] at this
    have hne : ¬ devs a b = [] := by rw [hd]; simp
    rw [if_neg hne, if_neg hne]
    exact this
  have gx : ∀ {j : Nat}, ((j : Int) < (a.length : Int)) → ∃ x, a[j]? = some x := fun h => ⟨_, List.getElem?_eq_getElem (by omega)⟩
  have gy : ∀ {j : Nat}, ((j : Int) < (b.length : Int)) → ∃ x, b[j]? = some x := fun h => ⟨_, List.getElem?_eq_getElem (by omega)⟩
  refine dev_w0 a b 0 0 ha hb _ _ ⟨fun h => ?_, fun h => ⟨fun h' => ?_, fun h' => ?_⟩⟩
  · obtain ⟨x, hx⟩ := gx h
    refine ⟨x, hx, ⟨fun h' => ?_, fun h' => fin (s4 x hx (by omega))⟩⟩
    obtain ⟨y, hy⟩ := gy h'
    exact ⟨y, hy, ⟨fun h1 => ⟨fun h2 => fin (s1 x y hx hy h1 h2), fun h2 => fin (s2 x y hx hy h1 h2)⟩, fun h1 => fin (s3 x y hx hy h1)⟩⟩
  · obtain ⟨y, hy⟩ := gy h'
    have hy5 := hB y (List.mem_of_getElem? hy)
    refine ⟨y, hy, ⟨fun h1 => ?_, fun h1 => absurd (if_pos hy5).symm h1⟩⟩
    rw [if_pos hy5]
    exact fin (s5 y (by omega) hy)
  · have e1 : a = [] := List.eq_nil_of_length_eq_zero (by omega)
    have e2 : b = [] := List.eq_nil_of_length_eq_zero (by omega)
    have : devs a b = [] := by rw [e1, e2]; rfl
    rw [if_pos this, if_pos this]
    exact ⟨rfl, rfl⟩

theorem dev_f_p1 (a : List D) (b : List D) : runF P G 33 [vec a, vec b] [] [Orc.loop [2, 3, 8, 9, 10, 11, 12, 13, 14, 15, 16, 17, 18, 19, 20, 21, 22, 23, 24, 25, 26, 27, 28, 29, 30, 31, 32, 33, 34, 35, 36, 37, 38, 39, 40, 41, 42, 43, 44, 45, 46, 47, 48, 49, 50, 51, 52, 53, 54, 55, 56, 57, 58, 59, 60, 61, 62, 63, 64, 65, 66, 67, 68, 69, 70, 71, 72, 73] 0 (AEx.exit 0) [AV.dead, AV.dead, AV.dead, AV.dead, AV.dead, nilS, AV.dead, AV.dead, AV.dead, AV.dead, AV.dead, AV.dead, AV.dead, AV.dead, AV.dead, AV.dead, AV.dead, AV.dead, AV.dead, AV.dead, AV.dead, AV.dead, AV.dead, AV.dead, AV.dead, AV.dead, AV.dead, AV.dead, AV.dead, AV.dead, AV.dead, AV.dead, AV.dead, AV.dead, AV.dead, AV.dead, AV.dead, AV.dead, AV.dead, AV.dead, AV.dead, AV.dead, AV.dead, AV.dead, AV.dead, AV.dead, AV.dead, AV.dead, AV.dead, AV.dead, AV.dead, AV.dead, AV.dead, AV.dead, AV.dead, AV.dead, AV.dead, AV.dead, AV.dead, AV.dead, AV.dead, AV.dead, AV.dead, AV.dead, AV.dead, AV.dead, AV.dead, AV.dead, AV.dead, AV.dead, AV.dead, AV.dead, AV.dead, AV.dead] []] =
    some (AOut.ret nilS, [], [RunL P G none 0 (loopAt P 33 0) { env := slots 74 [(0, AV.sl 2 false (encs a)), (1, AV.sl 2 false (encs b)), (4, nilS), (5, nilS), (6, int 0), (7, int 0)], H := [] } (AEx.exit 0) { env := slots 74 [(5, nilS)], H := [] }]) := by kernel_rfl

theorem dev_f_p2 (a : List D) (b : List D) : runF P G 33 [vec a, vec b] [] [Orc.loop [2, 3, 8, 9, 10, 11, 12, 13, 14, 15, 16, 17, 18, 19, 20, 21, 22, 23, 24, 25, 26, 27, 28, 29, 30, 31, 32, 33, 34, 35, 36, 37, 38, 39, 40, 41, 42, 43, 44, 45, 46, 47, 48, 49, 50, 51, 52, 53, 54, 55, 56, 57, 58, 59, 60, 61, 62, 63, 64, 65, 66, 67, 68, 69, 70, 71, 72, 73] 0 (AEx.exit 0) [AV.dead, AV.dead, AV.dead, AV.dead, AV.dead, AV.own 0 (List.length (devs a b) - 1) 0 (List.length (devs a b)), AV.dead, AV.dead, AV.dead, AV.dead, AV.dead, AV.dead, AV.dead, AV.dead, AV.dead, AV.dead, AV.dead, AV.dead, AV.dead, AV.dead, AV.dead, AV.dead, AV.dead, AV.dead, AV.dead, AV.dead, AV.dead, AV.dead, AV.dead, AV.dead, AV.dead, AV.dead, AV.dead, AV.dead, AV.dead, AV.dead, AV.dead, AV.dead, AV.dead, AV.dead, AV.dead, AV.dead, AV.dead, AV.dead, AV.dead, AV.dead, AV.dead, AV.dead, AV.dead, AV.dead, AV.dead, AV.dead, AV.dead, AV.dead, AV.dead, AV.dead, AV.dead, AV.dead, AV.dead, AV.dead, AV.dead, AV.dead, AV.dead, AV.dead, AV.dead, AV.dead, AV.dead, AV.dead, AV.dead, AV.dead, AV.dead, AV.dead, AV.dead, AV.dead] [AObj.arr (List.length (devs a b) - 1) 1 false (ints (devs a b))], Orc.frz (ints (devs a b))] =
    some (AOut.ret (AV.sl 1 false (ints (devs a b))), [], [RunL P G none 0 (loopAt P 33 0) { env := slots 74 [(0, AV.sl 2 false (encs a)), (1, AV.sl 2 false (encs b)), (4, nilS), (5, nilS), (6, int 0), (7, int 0)], H := [] } (AEx.exit 0) { env := slots 74 [(5, AV.own 0 (List.length (devs a b) - 1) 0 (List.length (devs a b)))], H := [AObj.arr (List.length (devs a b) - 1) 1 false (ints (devs a b))] }, List.length (devs a b) - 1 = List.length (devs a b) - 1, List.take (List.length (devs a b)) (List.drop 0 (ints (devs a b))) = ints (devs a b), List.length (ints (devs a b)) = List.length (devs a b), ∀ (c : List AV), c ∈ ints (devs a b) → List.all c AV.pureB = true]) := by kernel_rfl

theorem dev_f (a b : List D) (ha : a.length ≤ 1000000000) (hb : b.length ≤ 1000000000) (hB : ∀ y ∈ b, y.1 < 512) (h : (((devs a b = []) → [] = devs a b) ∧ ((¬devs a b = []) → True))) : CallC P G 33 [vec a, vec b] [] (AOut.ret (AV.sl 1 false (ints (devs a b)))) [] := by
  by_cases c1 : (devs a b = [])
  · have h := h.1 c1
    have e1 := h
    exact CallC.out (callC_of_run _ (dev_f_p1 a b) ⟨(by have h0 := (@Go.Vec.dev_l (a) (b) (by omega) (by omega) (by omega)); simp only [if_pos c1] at h0; exact h0), trivial⟩) (Sub.nil_eq (congrArg (List.map enc1) e1))
  · have h := h.2 c1
    have _ := h
    exact callC_of_run _ (dev_f_p2 a b) ⟨(by have h0 := (@Go.Vec.dev_l (a) (b) (by omega) (by omega) (by omega)); simp only [if_neg c1] at h0; exact h0), (rfl), (Go.Vec.ints_all _), (Go.Vec.ints_length _), (Go.Vec.ints_pure _), trivial⟩


theorem dev_c (a b : List D) (ha : a.length ≤ 1000000000) (hb : b.length ≤ 1000000000) (hB : ∀ y ∈ b, y.1 < 512) : CallC P G 33 [vec a, vec b] [] (.ret (.sl 1 false (ints (devs a b)))) [] :=
  dev_f a b ha hb hB ⟨fun h => h.symm, fun _ => trivial⟩

end Go.Vec
