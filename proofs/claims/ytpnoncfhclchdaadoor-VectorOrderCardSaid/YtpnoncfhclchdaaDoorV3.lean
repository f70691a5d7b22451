/- VECTOR, 3: the reference's Join, Meet, Compare and With. -/
import Derived.KernelRfl
import Derived.Test.YtpnoncfhclchdaaDoorV2
namespace Go.Vec
open Go Go.Am Go.Proofs

def rjSt0 (a b : List D) (l : List Int) (k : Nat) : St := { env := slots 47 [(0, vec a), (1, vec b), (4, nilS), (5, int 0), (7, .sl 1 false (ints l)), (8, nilS), (9, int k)], H := [] }
def rjSt1 (a b : List D) (l : List Int) (k g : Nat) (v : List D) : St := { env := slots 47 [(0, vec a), (1, vec b), (4, nilS), (5, int 0), (7, .sl 1 false (ints l)), (8, .own 0 g 0 v.length), (9, int k)], H := [.arr g 2 false (encs v)] }

theorem rj_w0_p1 (a : List D) (b : List D) (l : List Int) (k : Nat) (x2 : Int) : loopStep P G none 0 (loopAt P 22 0) (rjSt0 a b l k) [Orc.val (some 21) (int (↑(List.length l) : Int)), Orc.br true, Orc.elem (enc1 x2), Orc.elem (enc1 x2), Orc.call [] (AOut.ret (int (atV x2 a))) [], Orc.elem (enc1 x2), Orc.call [] (AOut.ret (int (atV x2 b))) [], Orc.val (some 24) (int (↑(k + 1) : Int))] (others 47 [0, 1, 4, 5, 7, 8, 9]) 1 =
    some ({ env := slots 47 [(0, AV.sl 2 false (encs a)), (1, AV.sl 2 false (encs b)), (4, nilS), (5, int 0), (7, AV.sl 1 false (ints l)), (8, AV.own 0 0 0 (List.length [(x2, if atV x2 b > atV x2 a then atV x2 b else atV x2 a)])), (9, int (↑(k + 1) : Int))], H := [AObj.arr 0 2 false (encs [(x2, if atV x2 b > atV x2 a then atV x2 b else atV x2 a)])] }, [Am.Sub (int (↑(List.length (ints l)) : Int)) (int (↑(List.length l) : Int)), decide ((↑k : Int) < (↑(List.length l) : Int)) = true, 0 ≤ (↑k : Int) ∧ (ints l)[Int.toNat (↑k : Int)]? = some (enc1 x2), 0 ≤ (↑k : Int) ∧ (ints l)[Int.toNat (↑k : Int)]? = some (enc1 x2), CallC P G 17 [AV.sl 2 false (encs a), int x2] [] (AOut.ret (int (atV x2 a))) [], 0 ≤ (↑k : Int) ∧ (ints l)[Int.toNat (↑k : Int)]? = some (enc1 x2), CallC P G 17 [AV.sl 2 false (encs b), int x2] [] (AOut.ret (int (atV x2 b))) [], [[int x2, int (if atV x2 b > atV x2 a then atV x2 b else atV x2 a)]] ≠ [], 16 ≤ 140737488355328, Am.Sub (int (IntKind.wrap IntKind.i64 ((↑k : Int) + 1))) (int (↑(k + 1) : Int))]) := by kernel_rfl

theorem rj_w0_p2 (a : List D) (b : List D) (l : List Int) (k : Nat) : loopExit P G none 0 (loopAt P 22 0) (rjSt0 a b l k) [Orc.val (some 21) (int (↑(List.length l) : Int)), Orc.br false] (others 47 [8]) 0 =
    some (AEx.exit 0, { env := slots 47 [(8, nilS)], H := [] }, [Am.Sub (int (↑(List.length (ints l)) : Int)) (int (↑(List.length l) : Int)), decide ((↑k : Int) < (↑(List.length l) : Int)) = false]) := by kernel_rfl

theorem rj_w0 (a b : List D) (l : List Int) (k : Nat) (ha : a.length ≤ 1000000000) (hb : b.length ≤ 1000000000) (hl : l.length ≤ 2000000000) (ex : AEx) (s' : St) (h : ((((↑k : Int) < (↑(List.length l) : Int)) → (∃ x2 : Int, (l[k]? = some x2) ∧ RunL P G none 0 (loopAt P 22 0) { env := slots 47 [(0, AV.sl 2 false (encs a)), (1, AV.sl 2 false (encs b)), (4, nilS), (5, int 0), (7, AV.sl 1 false (ints l)), (8, AV.own 0 0 0 (List.length [(x2, if atV x2 b > atV x2 a then atV x2 b else atV x2 a)])), (9, int (↑(k + 1) : Int))], H := [AObj.arr 0 2 false (encs [(x2, if atV x2 b > atV x2 a then atV x2 b else atV x2 a)])] } ex s')) ∧ ((¬(↑k : Int) < (↑(List.length l) : Int)) → (AEx.exit 0 = ex) ∧ ({ env := slots 47 [(8, nilS)], H := [] } = s')))) : RunL P G none 0 (loopAt P 22 0) (rjSt0 a b l k) ex s' := by
  by_cases c1 : ((↑k : Int) < (↑(List.length l) : Int))
  · have h := h.1 c1
    obtain ⟨x2, o3, h⟩ := h
    exact RunL.next _ _ _ (rj_w0_p1 a b l k x2) ⟨Sub.of_eq (by simp only [Go.Vec.ints_length]), (decide_eq_true c1), (el_nat o3), (el_nat o3), (@Go.Vec.rat_c (a) (x2) (by omega)), (el_nat o3), (@Go.Vec.rat_c (b) (x2) (by omega)), (by simp), (by omega), Sub.of_wrap (by omega) (by omega) (by omega), trivial⟩ h
  · have h := h.2 c1
    obtain ⟨eX, eS⟩ := h
    exact RunL.to (RunL.exit _ _ _ (rj_w0_p2 a b l k) ⟨Sub.of_eq (by simp only [Go.Vec.ints_length]), (decide_eq_false c1), trivial⟩) eX (SubS.of_eq eS)


theorem rj_w1_p1 (a : List D) (b : List D) (l : List Int) (k : Nat) (g : Nat) (v : List D) (x2 : Int) : loopStep P G none 0 (loopAt P 22 0) (rjSt1 a b l k g v) [Orc.val (some 21) (int (↑(List.length l) : Int)), Orc.br true, Orc.elem (enc1 x2), Orc.elem (enc1 x2), Orc.call [] (AOut.ret (int (atV x2 a))) [], Orc.elem (enc1 x2), Orc.call [] (AOut.ret (int (atV x2 b))) [], Orc.hp (some 45) (AV.own 0 (g + 1) 0 (List.length (v ++ [(x2, if atV x2 b > atV x2 a then atV x2 b else atV x2 a)]))) [AObj.arr (g + 1) 2 false (encs (v ++ [(x2, if atV x2 b > atV x2 a then atV x2 b else atV x2 a)]))], Orc.val (some 24) (int (↑(k + 1) : Int))] (others 47 [0, 1, 4, 5, 7, 8, 9]) 1 =
    some ({ env := slots 47 [(0, AV.sl 2 false (encs a)), (1, AV.sl 2 false (encs b)), (4, nilS), (5, int 0), (7, AV.sl 1 false (ints l)), (8, AV.own 0 (g + 1) 0 (List.length (v ++ [(x2, if atV x2 b > atV x2 a then atV x2 b else atV x2 a)]))), (9, int (↑(k + 1) : Int))], H := [AObj.arr (g + 1) 2 false (encs (v ++ [(x2, if atV x2 b > atV x2 a then atV x2 b else atV x2 a)]))] }, [Am.Sub (int (↑(List.length (ints l)) : Int)) (int (↑(List.length l) : Int)), decide ((↑k : Int) < (↑(List.length l) : Int)) = true, 0 ≤ (↑k : Int) ∧ (ints l)[Int.toNat (↑k : Int)]? = some (enc1 x2), 0 ≤ (↑k : Int) ∧ (ints l)[Int.toNat (↑k : Int)]? = some (enc1 x2), CallC P G 17 [AV.sl 2 false (encs a), int x2] [] (AOut.ret (int (atV x2 a))) [], 0 ≤ (↑k : Int) ∧ (ints l)[Int.toNat (↑k : Int)]? = some (enc1 x2), CallC P G 17 [AV.sl 2 false (encs b), int x2] [] (AOut.ret (int (atV x2 b))) [], Am.Sub (AV.own 0 (g + 1) 0 (List.length v + 1)) (AV.own 0 (g + 1) 0 (List.length (v ++ [(x2, if atV x2 b > atV x2 a then atV x2 b else atV x2 a)]))), Am.HSub [AObj.arr (g + 1) 2 false (encs v ++ [[int x2, int (if atV x2 b > atV x2 a then atV x2 b else atV x2 a)]])] [AObj.arr (g + 1) 2 false (encs (v ++ [(x2, if atV x2 b > atV x2 a then atV x2 b else atV x2 a)]))], g = g, List.length v = List.length (encs v), (List.length v + 1) * 16 ≤ 140737488355328, Am.Sub (int (IntKind.wrap IntKind.i64 ((↑k : Int) + 1))) (int (↑(k + 1) : Int))]) := by kernel_rfl

theorem rj_w1_p2 (a : List D) (b : List D) (l : List Int) (k : Nat) (g : Nat) (v : List D) : loopExit P G none 0 (loopAt P 22 0) (rjSt1 a b l k g v) [Orc.val (some 21) (int (↑(List.length l) : Int)), Orc.br false] (others 47 [8]) 1 =
    some (AEx.exit 0, { env := slots 47 [(8, AV.own 0 g 0 (List.length v))], H := [AObj.arr g 2 false (encs v)] }, [Am.Sub (int (↑(List.length (ints l)) : Int)) (int (↑(List.length l) : Int)), decide ((↑k : Int) < (↑(List.length l) : Int)) = false]) := by kernel_rfl

theorem rj_w1 (a b : List D) (l : List Int) (k g : Nat) (v : List D) (ha : a.length ≤ 1000000000) (hb : b.length ≤ 1000000000) (hl : l.length ≤ 2000000000) (hv : v.length ≤ 3000000000) (ex : AEx) (s' : St) (h : ((((↑k : Int) < (↑(List.length l) : Int)) → (∃ x2 : Int, (l[k]? = some x2) ∧ RunL P G none 0 (loopAt P 22 0) { env := slots 47 [(0, AV.sl 2 false (encs a)), (1, AV.sl 2 false (encs b)), (4, nilS), (5, int 0), (7, AV.sl 1 false (ints l)), (8, AV.own 0 (g + 1) 0 (List.length (v ++ [(x2, if atV x2 b > atV x2 a then atV x2 b else atV x2 a)]))), (9, int (↑(k + 1) : Int))], H := [AObj.arr (g + 1) 2 false (encs (v ++ [(x2, if atV x2 b > atV x2 a then atV x2 b else atV x2 a)]))] } ex s')) ∧ ((¬(↑k : Int) < (↑(List.length l) : Int)) → (AEx.exit 0 = ex) ∧ ({ env := slots 47 [(8, AV.own 0 g 0 (List.length v))], H := [AObj.arr g 2 false (encs v)] } = s')))) : RunL P G none 0 (loopAt P 22 0) (rjSt1 a b l k g v) ex s' := by
  by_cases c1 : ((↑k : Int) < (↑(List.length l) : Int))
  · have h := h.1 c1
    obtain ⟨x2, o3, h⟩ := h
    exact RunL.next _ _ _ (rj_w1_p1 a b l k g v x2) ⟨Sub.of_eq (by simp only [Go.Vec.ints_length]), (decide_eq_true c1), (el_nat o3), (el_nat o3), (@Go.Vec.rat_c (a) (x2) (by omega)), (el_nat o3), (@Go.Vec.rat_c (b) (x2) (by omega)), Sub.of_eq (by simp), ⟨.inl (by simp only [Go.Vec.encs_append, Go.Vec.encs_one]), trivial⟩, (rfl), ((Go.Vec.encs_length _).symm), (by omega), Sub.of_wrap (by omega) (by omega) (by omega), trivial⟩ h
  · have h := h.2 c1
    obtain ⟨eX, eS⟩ := h
    exact RunL.to (RunL.exit _ _ _ (rj_w1_p2 a b l k g v) ⟨Sub.of_eq (by simp only [Go.Vec.ints_length]), (decide_eq_false c1), trivial⟩) eX (SubS.of_eq eS)


def rmSt0 (a b : List D) (l : List Int) (k : Nat) : St := { env := slots 51 [(0, vec a), (1, vec b), (4, nilS), (5, int 0), (7, .sl 1 false (ints l)), (8, nilS), (9, int k)], H := [] }
def rmSt1 (a b : List D) (l : List Int) (k g : Nat) (v : List D) : St := { env := slots 51 [(0, vec a), (1, vec b), (4, nilS), (5, int 0), (7, .sl 1 false (ints l)), (8, .own 0 g 0 v.length), (9, int k)], H := [.arr g 2 false (encs v)] }

theorem rm_w0_p1 (a : List D) (b : List D) (l : List Int) (k : Nat) (x2 : Int) : loopStep P G none 0 (loopAt P 24 0) (rmSt0 a b l k) [Orc.val (some 22) (int (↑(List.length l) : Int)), Orc.br true, Orc.elem (enc1 x2), Orc.call [] (AOut.ret (int (atV x2 a))) [], Orc.elem (enc1 x2), Orc.call [] (AOut.ret (int (atV x2 b))) [], Orc.br true, Orc.elem (enc1 x2), Orc.val (some 25) (int (↑(k + 1) : Int))] (others 51 [0, 1, 4, 5, 7, 8, 9]) 1 =
    some ({ env := slots 51 [(0, AV.sl 2 false (encs a)), (1, AV.sl 2 false (encs b)), (4, nilS), (5, int 0), (7, AV.sl 1 false (ints l)), (8, AV.own 0 0 0 (List.length [(x2, if atV x2 b < atV x2 a then atV x2 b else atV x2 a)])), (9, int (↑(k + 1) : Int))], H := [AObj.arr 0 2 false (encs [(x2, if atV x2 b < atV x2 a then atV x2 b else atV x2 a)])] }, [Am.Sub (int (↑(List.length (ints l)) : Int)) (int (↑(List.length l) : Int)), decide ((↑k : Int) < (↑(List.length l) : Int)) = true, 0 ≤ (↑k : Int) ∧ (ints l)[Int.toNat (↑k : Int)]? = some (enc1 x2), CallC P G 17 [AV.sl 2 false (encs a), int x2] [] (AOut.ret (int (atV x2 a))) [], 0 ≤ (↑k : Int) ∧ (ints l)[Int.toNat (↑k : Int)]? = some (enc1 x2), CallC P G 17 [AV.sl 2 false (encs b), int x2] [] (AOut.ret (int (atV x2 b))) [], decide ((if atV x2 b < atV x2 a then atV x2 b else atV x2 a) > 0) = true, 0 ≤ (↑k : Int) ∧ (ints l)[Int.toNat (↑k : Int)]? = some (enc1 x2), [[int x2, int (if atV x2 b < atV x2 a then atV x2 b else atV x2 a)]] ≠ [], 16 ≤ 140737488355328, Am.Sub (int (IntKind.wrap IntKind.i64 ((↑k : Int) + 1))) (int (↑(k + 1) : Int))]) := by kernel_rfl

theorem rm_w0_p2 (a : List D) (b : List D) (l : List Int) (k : Nat) (x2 : Int) : loopStep P G none 0 (loopAt P 24 0) (rmSt0 a b l k) [Orc.val (some 22) (int (↑(List.length l) : Int)), Orc.br true, Orc.elem (enc1 x2), Orc.call [] (AOut.ret (int (atV x2 a))) [], Orc.elem (enc1 x2), Orc.call [] (AOut.ret (int (atV x2 b))) [], Orc.br false, Orc.val (some 25) (int (↑(k + 1) : Int))] (others 51 [0, 1, 4, 5, 7, 8, 9]) 0 =
    some ({ env := slots 51 [(0, AV.sl 2 false (encs a)), (1, AV.sl 2 false (encs b)), (4, nilS), (5, int 0), (7, AV.sl 1 false (ints l)), (8, nilS), (9, int (↑(k + 1) : Int))], H := [] }, [Am.Sub (int (↑(List.length (ints l)) : Int)) (int (↑(List.length l) : Int)), decide ((↑k : Int) < (↑(List.length l) : Int)) = true, 0 ≤ (↑k : Int) ∧ (ints l)[Int.toNat (↑k : Int)]? = some (enc1 x2), CallC P G 17 [AV.sl 2 false (encs a), int x2] [] (AOut.ret (int (atV x2 a))) [], 0 ≤ (↑k : Int) ∧ (ints l)[Int.toNat (↑k : Int)]? = some (enc1 x2), CallC P G 17 [AV.sl 2 false (encs b), int x2] [] (AOut.ret (int (atV x2 b))) [], decide ((if atV x2 b < atV x2 a then atV x2 b else atV x2 a) > 0) = false, Am.Sub (int (IntKind.wrap IntKind.i64 ((↑k : Int) + 1))) (int (↑(k + 1) : Int))]) := by kernel_rfl

theorem rm_w0_p3 (a : List D) (b : List D) (l : List Int) (k : Nat) : loopExit P G none 0 (loopAt P 24 0) (rmSt0 a b l k) [Orc.val (some 22) (int (↑(List.length l) : Int)), Orc.br false] (others 51 [8]) 0 =
    some (AEx.exit 0, { env := slots 51 [(8, nilS)], H := [] }, [Am.Sub (int (↑(List.length (ints l)) : Int)) (int (↑(List.length l) : Int)), decide ((↑k : Int) < (↑(List.length l) : Int)) = false]) := by kernel_rfl

theorem rm_w0 (a b : List D) (l : List Int) (k : Nat) (ha : a.length ≤ 1000000000) (hb : b.length ≤ 1000000000) (hl : l.length ≤ 2000000000) (ex : AEx) (s' : St) (h : ((((↑k : Int) < (↑(List.length l) : Int)) → (∃ x2 : Int, (l[k]? = some x2) ∧ ((((if atV x2 b < atV x2 a then atV x2 b else atV x2 a) > 0) → RunL P G none 0 (loopAt P 24 0) { env := slots 51 [(0, AV.sl 2 false (encs a)), (1, AV.sl 2 false (encs b)), (4, nilS), (5, int 0), (7, AV.sl 1 false (ints l)), (8, AV.own 0 0 0 (List.length [(x2, if atV x2 b < atV x2 a then atV x2 b else atV x2 a)])), (9, int (↑(k + 1) : Int))], H := [AObj.arr 0 2 false (encs [(x2, if atV x2 b < atV x2 a then atV x2 b else atV x2 a)])] } ex s') ∧ ((¬(if atV x2 b < atV x2 a then atV x2 b else atV x2 a) > 0) → RunL P G none 0 (loopAt P 24 0) { env := slots 51 [(0, AV.sl 2 false (encs a)), (1, AV.sl 2 false (encs b)), (4, nilS), (5, int 0), (7, AV.sl 1 false (ints l)), (8, nilS), (9, int (↑(k + 1) : Int))], H := [] } ex s')))) ∧ ((¬(↑k : Int) < (↑(List.length l) : Int)) → (AEx.exit 0 = ex) ∧ ({ env := slots 51 [(8, nilS)], H := [] } = s')))) : RunL P G none 0 (loopAt P 24 0) (rmSt0 a b l k) ex s' := by
  by_cases c1 : ((↑k : Int) < (↑(List.length l) : Int))
  · have h := h.1 c1
    obtain ⟨x2, o3, h⟩ := h
    by_cases c4 : ((if atV x2 b < atV x2 a then atV x2 b else atV x2 a) > 0)
    · have h := h.1 c4
      exact RunL.next _ _ _ (rm_w0_p1 a b l k x2) ⟨Sub.of_eq (by simp only [Go.Vec.ints_length]), (decide_eq_true c1), (el_nat o3), (@Go.Vec.rat_c (a) (x2) (by omega)), (el_nat o3), (@Go.Vec.rat_c (b) (x2) (by omega)), (decide_eq_true c4), (el_nat o3), (by simp), (by omega), Sub.of_wrap (by omega) (by omega) (by omega), trivial⟩ h
    · have h := h.2 c4
      exact RunL.next _ _ _ (rm_w0_p2 a b l k x2) ⟨Sub.of_eq (by simp only [Go.Vec.ints_length]), (decide_eq_true c1), (el_nat o3), (@Go.Vec.rat_c (a) (x2) (by omega)), (el_nat o3), (@Go.Vec.rat_c (b) (x2) (by omega)), (decide_eq_false c4), Sub.of_wrap (by omega) (by omega) (by omega), trivial⟩ h
  · have h := h.2 c1
    obtain ⟨eX, eS⟩ := h
    exact RunL.to (RunL.exit _ _ _ (rm_w0_p3 a b l k) ⟨Sub.of_eq (by simp only [Go.Vec.ints_length]), (decide_eq_false c1), trivial⟩) eX (SubS.of_eq eS)


theorem rm_w1_p1 (a : List D) (b : List D) (l : List Int) (k : Nat) (g : Nat) (v : List D) (x2 : Int) : loopStep P G none 0 (loopAt P 24 0) (rmSt1 a b l k g v) [Orc.val (some 22) (int (↑(List.length l) : Int)), Orc.br true, Orc.elem (enc1 x2), Orc.call [] (AOut.ret (int (atV x2 a))) [], Orc.elem (enc1 x2), Orc.call [] (AOut.ret (int (atV x2 b))) [], Orc.br true, Orc.elem (enc1 x2), Orc.hp (some 49) (AV.own 0 (g + 1) 0 (List.length (v ++ [(x2, if atV x2 b < atV x2 a then atV x2 b else atV x2 a)]))) [AObj.arr (g + 1) 2 false (encs (v ++ [(x2, if atV x2 b < atV x2 a then atV x2 b else atV x2 a)]))], Orc.val (some 25) (int (↑(k + 1) : Int))] (others 51 [0, 1, 4, 5, 7, 8, 9]) 1 =
    some ({ env := slots 51 [(0, AV.sl 2 false (encs a)), (1, AV.sl 2 false (encs b)), (4, nilS), (5, int 0), (7, AV.sl 1 false (ints l)), (8, AV.own 0 (g + 1) 0 (List.length (v ++ [(x2, if atV x2 b < atV x2 a then atV x2 b else atV x2 a)]))), (9, int (↑(k + 1) : Int))], H := [AObj.arr (g + 1) 2 false (encs (v ++ [(x2, if atV x2 b < atV x2 a then atV x2 b else atV x2 a)]))] }, [Am.Sub (int (↑(List.length (ints l)) : Int)) (int (↑(List.length l) : Int)), decide ((↑k : Int) < (↑(List.length l) : Int)) = true, 0 ≤ (↑k : Int) ∧ (ints l)[Int.toNat (↑k : Int)]? = some (enc1 x2), CallC P G 17 [AV.sl 2 false (encs a), int x2] [] (AOut.ret (int (atV x2 a))) [], 0 ≤ (↑k : Int) ∧ (ints l)[Int.toNat (↑k : Int)]? = some (enc1 x2), CallC P G 17 [AV.sl 2 false (encs b), int x2] [] (AOut.ret (int (atV x2 b))) [], decide ((if atV x2 b < atV x2 a then atV x2 b else atV x2 a) > 0) = true, 0 ≤ (↑k : Int) ∧ (ints l)[Int.toNat (↑k : Int)]? = some (enc1 x2), Am.Sub (AV.own 0 (g + 1) 0 (List.length v + 1)) (AV.own 0 (g + 1) 0 (List.length (v ++ [(x2, if atV x2 b < atV x2 a then atV x2 b else atV x2 a)]))), Am.HSub [AObj.arr (g + 1) 2 false (encs v ++ [[int x2, int (if atV x2 b < atV x2 a then atV x2 b else atV x2 a)]])] [AObj.arr (g + 1) 2 false (encs (v ++ [(x2, if atV x2 b < atV x2 a then atV x2 b else atV x2 a)]))], g = g, List.length v = List.length (encs v), (List.length v + 1) * 16 ≤ 140737488355328, Am.Sub (int (IntKind.wrap IntKind.i64 ((↑k : Int) + 1))) (int (↑(k + 1) : Int))]) := by kernel_rfl

theorem rm_w1_p2 (a : List D) (b : List D) (l : List Int) (k : Nat) (g : Nat) (v : List D) (x2 : Int) : loopStep P G none 0 (loopAt P 24 0) (rmSt1 a b l k g v) [Orc.val (some 22) (int (↑(List.length l) : Int)), Orc.br true, Orc.elem (enc1 x2), Orc.call [] (AOut.ret (int (atV x2 a))) [], Orc.elem (enc1 x2), Orc.call [] (AOut.ret (int (atV x2 b))) [], Orc.br false, Orc.val (some 25) (int (↑(k + 1) : Int))] (others 51 [0, 1, 4, 5, 7, 8, 9]) 1 =
    some ({ env := slots 51 [(0, AV.sl 2 false (encs a)), (1, AV.sl 2 false (encs b)), (4, nilS), (5, int 0), (7, AV.sl 1 false (ints l)), (8, AV.own 0 g 0 (List.length v)), (9, int (↑(k + 1) : Int))], H := [AObj.arr g 2 false (encs v)] }, [Am.Sub (int (↑(List.length (ints l)) : Int)) (int (↑(List.length l) : Int)), decide ((↑k : Int) < (↑(List.length l) : Int)) = true, 0 ≤ (↑k : Int) ∧ (ints l)[Int.toNat (↑k : Int)]? = some (enc1 x2), CallC P G 17 [AV.sl 2 false (encs a), int x2] [] (AOut.ret (int (atV x2 a))) [], 0 ≤ (↑k : Int) ∧ (ints l)[Int.toNat (↑k : Int)]? = some (enc1 x2), CallC P G 17 [AV.sl 2 false (encs b), int x2] [] (AOut.ret (int (atV x2 b))) [], decide ((if atV x2 b < atV x2 a then atV x2 b else atV x2 a) > 0) = false, Am.Sub (int (IntKind.wrap IntKind.i64 ((↑k : Int) + 1))) (int (↑(k + 1) : Int))]) := by kernel_rfl

theorem rm_w1_p3 (a : List D) (b : List D) (l : List Int) (k : Nat) (g : Nat) (v : List D) : loopExit P G none 0 (loopAt P 24 0) (rmSt1 a b l k g v) [Orc.val (some 22) (int (↑(List.length l) : Int)), Orc.br false] (others 51 [8]) 1 =
    some (AEx.exit 0, { env := slots 51 [(8, AV.own 0 g 0 (List.length v))], H := [AObj.arr g 2 false (encs v)] }, [Am.Sub (int (↑(List.length (ints l)) : Int)) (int (↑(List.length l) : Int)), decide ((↑k : Int) < (↑(List.length l) : Int)) = false]) := by kernel_rfl

theorem rm_w1 (a b : List D) (l : List Int) (k g : Nat) (v : List D) (ha : a.length ≤ 1000000000) (hb : b.length ≤ 1000000000) (hl : l.length ≤ 2000000000) (hv : v.length ≤ 3000000000) (ex : AEx) (s' : St) (h : ((((↑k : Int) < (↑(List.length l) : Int)) → (∃ x2 : Int, (l[k]? = some x2) ∧ ((((if atV x2 b < atV x2 a then atV x2 b else atV x2 a) > 0) → RunL P G none 0 (loopAt P 24 0) { env := slots 51 [(0, AV.sl 2 false (encs a)), (1, AV.sl 2 false (encs b)), (4, nilS), (5, int 0), (7, AV.sl 1 false (ints l)), (8, AV.own 0 (g + 1) 0 (List.length (v ++ [(x2, if atV x2 b < atV x2 a then atV x2 b else atV x2 a)]))), (9, int (↑(k + 1) : Int))], H := [AObj.arr (g + 1) 2 false (encs (v ++ [(x2, if atV x2 b < atV x2 a then atV x2 b else atV x2 a)]))] } ex s') ∧ ((¬(if atV x2 b < atV x2 a then atV x2 b else atV x2 a) > 0) → RunL P G none 0 (loopAt P 24 0) { env := slots 51 [(0, AV.sl 2 false (encs a)), (1, AV.sl 2 false (encs b)), (4, nilS), (5, int 0), (7, AV.sl 1 false (ints l)), (8, AV.own 0 g 0 (List.length v)), (9, int (↑(k + 1) : Int))], H := [AObj.arr g 2 false (encs v)] } ex s')))) ∧ ((¬(↑k : Int) < (↑(List.length l) : Int)) → (AEx.exit 0 = ex) ∧ ({ env := slots 51 [(8, AV.own 0 g 0 (List.length v))], H := [AObj.arr g 2 false (encs v)] } = s')))) : RunL P G none 0 (loopAt P 24 0) (rmSt1 a b l k g v) ex s' := by
  by_cases c1 : ((↑k : Int) < (↑(List.length l) : Int))
  · have h := h.1 c1
    obtain ⟨x2, o3, h⟩ := h
    by_cases c4 : ((if atV x2 b < atV x2 a then atV x2 b else atV x2 a) > 0)
    · have h := h.1 c4
      exact RunL.next _ _ _ (rm_w1_p1 a b l k g v x2) ⟨Sub.of_eq (by simp only [Go.Vec.ints_length]), (decide_eq_true c1), (el_nat o3), (@Go.Vec.rat_c (a) (x2) (by omega)), (el_nat o3), (@Go.Vec.rat_c (b) (x2) (by omega)), (decide_eq_true c4), (el_nat o3), Sub.of_eq (by simp), ⟨.inl (by simp only [Go.Vec.encs_append, Go.Vec.encs_one]), trivial⟩, (rfl), ((Go.Vec.encs_length _).symm), (by omega), Sub.of_wrap (by omega) (by omega) (by omega), trivial⟩ h
    · have h := h.2 c4
      exact RunL.next _ _ _ (rm_w1_p2 a b l k g v x2) ⟨Sub.of_eq (by simp only [Go.Vec.ints_length]), (decide_eq_true c1), (el_nat o3), (@Go.Vec.rat_c (a) (x2) (by omega)), (el_nat o3), (@Go.Vec.rat_c (b) (x2) (by omega)), (decide_eq_false c4), Sub.of_wrap (by omega) (by omega) (by omega), trivial⟩ h
  · have h := h.2 c1
    obtain ⟨eX, eS⟩ := h
    exact RunL.to (RunL.exit _ _ _ (rm_w1_p3 a b l k g v) ⟨Sub.of_eq (by simp only [Go.Vec.ints_length]), (decide_eq_false c1), trivial⟩) eX (SubS.of_eq eS)


def joinF (a b : List D) (d : Int) : Option D := some (d, if atV d b > atV d a then atV d b else atV d a)
def meetF (a b : List D) (d : Int) : Option D := if (if atV d b < atV d a then atV d b else atV d a) > 0 then some (d, if atV d b < atV d a then atV d b else atV d a) else none

def rjOut (g : Nat) (v : List D) : St := { env := slots 47 [(8, .own 0 g 0 v.length)], H := [.arr g 2 false (encs v)] }
def rjFin (t : List D) : St := { env := slots 47 [(8, if t = [] then nilS else .own 0 (t.length - 1) 0 t.length)], H := if t = [] then [] else [.arr (t.length - 1) 2 false (encs t)] }
theorem rj_loop1 (a b : List D) (l : List Int) (ha : a.length ≤ 1000000000) (hb : b.length ≤ 1000000000) (hl : l.length ≤ 2000000000) : ∀ n k g v, l.length - k = n → k ≤ l.length → v.length + n ≤ 3000000000 →
    RunL P G none 0 (loopAt P 22 0) (rjSt1 a b l k g v) (.exit 0) (rjOut (g + ((l.drop k).filterMap (joinF a b)).length) (v ++ (l.drop k).filterMap (joinF a b))) := by
  intro n
  induction n with
  | zero =>
    intro k g v hn hk hv
    refine rj_w1 a b l k g v ha hb hl (by omega) _ _ ⟨fun h => absurd h (by omega), fun _ => ⟨rfl, ?_⟩⟩
    rw [List.drop_of_length_le (by omega)]
    simp [rjOut]
  | succ n ih =>
    intro k g v hn hk hv
    have hlt : k < l.length := by omega
    have e := List.drop_eq_getElem_cons hlt
    have yes : ∀ {d}, joinF a b l[k] = some d → RunL P G none 0 (loopAt P 22 0) (rjSt1 a b l (k + 1) (g + 1) (v ++ [d])) (.exit 0) (rjOut (g + ((l.drop k).filterMap (joinF a b)).length) (v ++ (l.drop k).filterMap (joinF a b))) := fun {d} hd => by
      have := ih (k + 1) (g + 1) (v ++ [d]) (by omega) (by omega) (by simp; omega)
      rw [e, List.filterMap_cons_some hd, List.length_cons, show g + (((l.drop (k + 1)).filterMap (joinF a b)).length + 1) = g + 1 + ((l.drop (k + 1)).filterMap (joinF a b)).length by omega, show v ++ d :: (l.drop (k + 1)).filterMap (joinF a b) = v ++ [d] ++ (l.drop (k + 1)).filterMap (joinF a b) by simp]
      exact this
    have _no : joinF a b l[k] = none → RunL P G none 0 (loopAt P 22 0) (rjSt1 a b l (k + 1) g v) (.exit 0) (rjOut (g + ((l.drop k).filterMap (joinF a b)).length) (v ++ (l.drop k).filterMap (joinF a b))) := fun hd => by
      have := ih (k + 1) g v (by omega) (by omega) (by omega)
      rw [e, List.filterMap_cons_none hd]
      exact this
    refine rj_w1 a b l k g v ha hb hl (by omega) _ _ ⟨fun h => ⟨l[k], List.getElem?_eq_getElem hlt, yes rfl⟩, fun h => absurd hlt (by omega)⟩
theorem rj_loop0 (a b : List D) (l : List Int) (ha : a.length ≤ 1000000000) (hb : b.length ≤ 1000000000) (hl : l.length ≤ 2000000000) : ∀ n k, l.length - k = n → k ≤ l.length →
    RunL P G none 0 (loopAt P 22 0) (rjSt0 a b l k) (.exit 0) (rjFin ((l.drop k).filterMap (joinF a b))) := by
  intro n
  induction n with
  | zero =>
    intro k hn hk
    refine rj_w0 a b l k ha hb hl _ _ ⟨fun h => absurd h (by omega), fun _ => ⟨rfl, ?_⟩⟩
    rw [List.drop_of_length_le (by omega)]
    rfl
  | succ n ih =>
    intro k hn hk
    have hlt : k < l.length := by omega
    have e := List.drop_eq_getElem_cons hlt
    have yes : ∀ {d}, joinF a b l[k] = some d → RunL P G none 0 (loopAt P 22 0) (rjSt1 a b l (k + 1) 0 [d]) (.exit 0) (rjFin ((l.drop k).filterMap (joinF a b))) := fun {d} hd => by
      have := rj_loop1 a b l ha hb hl (l.length - (k + 1)) (k + 1) 0 [d] rfl (by omega) (by simp; omega)
      rw [e, List.filterMap_cons_some hd]
      have hne : ¬ d :: (l.drop (k + 1)).filterMap (joinF a b) = [] := by simp
      unfold rjFin
      rw [if_neg hne, if_neg hne]
      rw [Nat.zero_add] at this
      exact this
    have _no : joinF a b l[k] = none → RunL P G none 0 (loopAt P 22 0) (rjSt0 a b l (k + 1)) (.exit 0) (rjFin ((l.drop k).filterMap (joinF a b))) := fun hd => by
      have := ih (k + 1) (by omega) (by omega)
      rw [e, List.filterMap_cons_none hd]
      exact this
    refine rj_w0 a b l k ha hb hl _ _ ⟨fun h => ⟨l[k], List.getElem?_eq_getElem hlt, yes rfl⟩, fun h => absurd hlt (by omega)⟩
theorem rj_l (a b : List D) (l : List Int) (ha : a.length ≤ 1000000000) (hb : b.length ≤ 1000000000) (hl : l.length ≤ 2000000000) :
    RunL P G none 0 (loopAt P 22 0) (rjSt0 a b l 0) (.exit 0) { env := slots 47 [(8, if l.filterMap (joinF a b) = [] then nilS else .own 0 ((l.filterMap (joinF a b)).length - 1) 0 (l.filterMap (joinF a b)).length)], H := if l.filterMap (joinF a b) = [] then [] else [.arr ((l.filterMap (joinF a b)).length - 1) 2 false (encs (l.filterMap (joinF a b)))] } :=
  rj_loop0 a b l ha hb hl _ 0 rfl (by omega)

def rmOut (g : Nat) (v : List D) : St := { env := slots 51 [(8, .own 0 g 0 v.length)], H := [.arr g 2 false (encs v)] }
def rmFin (t : List D) : St := { env := slots 51 [(8, if t = [] then nilS else .own 0 (t.length - 1) 0 t.length)], H := if t = [] then [] else [.arr (t.length - 1) 2 false (encs t)] }
theorem rm_loop1 (a b : List D) (l : List Int) (ha : a.length ≤ 1000000000) (hb : b.length ≤ 1000000000) (hl : l.length ≤ 2000000000) : ∀ n k g v, l.length - k = n → k ≤ l.length → v.length + n ≤ 3000000000 →
    RunL P G none 0 (loopAt P 24 0) (rmSt1 a b l k g v) (.exit 0) (rmOut (g + ((l.drop k).filterMap (meetF a b)).length) (v ++ (l.drop k).filterMap (meetF a b))) := by
  intro n
  induction n with
  | zero =>
    intro k g v hn hk hv
    refine rm_w1 a b l k g v ha hb hl (by omega) _ _ ⟨fun h => absurd h (by omega), fun _ => ⟨rfl, ?_⟩⟩
    rw [List.drop_of_length_le (by omega)]
    simp [rmOut]
  | succ n ih =>
    intro k g v hn hk hv
    have hlt : k < l.length := by omega
    have e := List.drop_eq_getElem_cons hlt
    have yes : ∀ {d}, meetF a b l[k] = some d → RunL P G none 0 (loopAt P 24 0) (rmSt1 a b l (k + 1) (g + 1) (v ++ [d])) (.exit 0) (rmOut (g + ((l.drop k).filterMap (meetF a b)).length) (v ++ (l.drop k).filterMap (meetF a b))) := fun {d} hd => by
      have := ih (k + 1) (g + 1) (v ++ [d]) (by omega) (by omega) (by simp; omega)
      rw [e, List.filterMap_cons_some hd, List.length_cons, show g + (((l.drop (k + 1)).filterMap (meetF a b)).length + 1) = g + 1 + ((l.drop (k + 1)).filterMap (meetF a b)).length by omega, show v ++ d :: (l.drop (k + 1)).filterMap (meetF a b) = v ++ [d] ++ (l.drop (k + 1)).filterMap (meetF a b) by simp]
      exact this
    have no : meetF a b l[k] = none → RunL P G none 0 (loopAt P 24 0) (rmSt1 a b l (k + 1) g v) (.exit 0) (rmOut (g + ((l.drop k).filterMap (meetF a b)).length) (v ++ (l.drop k).filterMap (meetF a b))) := fun hd => by
      have := ih (k + 1) g v (by omega) (by omega) (by omega)
      rw [e, List.filterMap_cons_none hd]
      exact this
    refine rm_w1 a b l k g v ha hb hl (by omega) _ _ ⟨fun h => ⟨l[k], List.getElem?_eq_getElem hlt, ⟨fun h => yes (if_pos h), fun h => no (if_neg h)⟩⟩, fun h => absurd hlt (by omega)⟩
theorem rm_loop0 (a b : List D) (l : List Int) (ha : a.length ≤ 1000000000) (hb : b.length ≤ 1000000000) (hl : l.length ≤ 2000000000) : ∀ n k, l.length - k = n → k ≤ l.length →
    RunL P G none 0 (loopAt P 24 0) (rmSt0 a b l k) (.exit 0) (rmFin ((l.drop k).filterMap (meetF a b))) := by
  intro n
  induction n with
  | zero =>
    intro k hn hk
    refine rm_w0 a b l k ha hb hl _ _ ⟨fun h => absurd h (by omega), fun _ => ⟨rfl, ?_⟩⟩
    rw [List.drop_of_length_le (by omega)]
    rfl
  | succ n ih =>
    intro k hn hk
    have hlt : k < l.length := by omega
    have e := List.drop_eq_getElem_cons hlt
    have yes : ∀ {d}, meetF a b l[k] = some d → RunL P G none 0 (loopAt P 24 0) (rmSt1 a b l (k + 1) 0 [d]) (.exit 0) (rmFin ((l.drop k).filterMap (meetF a b))) := fun {d} hd => by
      have := rm_loop1 a b l ha hb hl (l.length - (k + 1)) (k + 1) 0 [d] rfl (by omega) (by simp; omega)
      rw [e, List.filterMap_cons_some hd]
      have hne : ¬ d :: (l.drop (k + 1)).filterMap (meetF a b) = [] := by simp
      unfold rmFin
      rw [if_neg hne, if_neg hne]
      rw [Nat.zero_add] at this
      exact this
    have no : meetF a b l[k] = none → RunL P G none 0 (loopAt P 24 0) (rmSt0 a b l (k + 1)) (.exit 0) (rmFin ((l.drop k).filterMap (meetF a b))) := fun hd => by
      have := ih (k + 1) (by omega) (by omega)
      rw [e, List.filterMap_cons_none hd]
      exact this
    refine rm_w0 a b l k ha hb hl _ _ ⟨fun h => ⟨l[k], List.getElem?_eq_getElem hlt, ⟨fun h => yes (if_pos h), fun h => no (if_neg h)⟩⟩, fun h => absurd hlt (by omega)⟩
theorem rm_l (a b : List D) (l : List Int) (ha : a.length ≤ 1000000000) (hb : b.length ≤ 1000000000) (hl : l.length ≤ 2000000000) :
    RunL P G none 0 (loopAt P 24 0) (rmSt0 a b l 0) (.exit 0) { env := slots 51 [(8, if l.filterMap (meetF a b) = [] then nilS else .own 0 ((l.filterMap (meetF a b)).length - 1) 0 (l.filterMap (meetF a b)).length)], H := if l.filterMap (meetF a b) = [] then [] else [.arr ((l.filterMap (meetF a b)).length - 1) 2 false (encs (l.filterMap (meetF a b)))] } :=
  rm_loop0 a b l ha hb hl _ 0 rfl (by omega)

def joinV (a b : List D) : List D := (devs a b).filterMap (joinF a b)
def meetV (a b : List D) : List D := (devs a b).filterMap (meetF a b)
theorem devs_len (a b : List D) : (devs a b).length ≤ a.length + b.length := devN_len _ a b

theorem rjoin_f_p1 (a : List D) (b : List D) : runF P G 22 [vec a, vec b] [] [Orc.call [] (AOut.ret (int (check2E a b))) [], Orc.br false, Orc.call [] (AOut.ret (AV.sl 1 false (ints (devs a b)))) [], Orc.loop [2, 3, 6, 10, 11, 12, 13, 14, 15, 16, 17, 18, 19, 20, 21, 22, 23, 24, 25, 26, 27, 28, 29, 30, 31, 32, 33, 34, 35, 36, 37, 38, 39, 40, 41, 42, 43, 44, 45, 46] 0 (AEx.exit 0) [AV.dead, AV.dead, AV.dead, AV.dead, AV.dead, AV.dead, AV.dead, AV.dead, nilS, AV.dead, AV.dead, AV.dead, AV.dead, AV.dead, AV.dead, AV.dead, AV.dead, AV.dead, AV.dead, AV.dead, AV.dead, AV.dead, AV.dead, AV.dead, AV.dead, AV.dead, AV.dead, AV.dead, AV.dead, AV.dead, AV.dead, AV.dead, AV.dead, AV.dead, AV.dead, AV.dead, AV.dead, AV.dead, AV.dead, AV.dead, AV.dead, AV.dead, AV.dead, AV.dead, AV.dead, AV.dead, AV.dead] []] =
    some (AOut.ret (AV.tup [nilS, int 0]), [], [CallC P G 32 [AV.sl 2 false (encs a), AV.sl 2 false (encs b)] [] (AOut.ret (int (check2E a b))) [], (check2E a b != 0) = false, CallC P G 33 [AV.sl 2 false (encs a), AV.sl 2 false (encs b)] [] (AOut.ret (AV.sl 1 false (ints (devs a b)))) [], RunL P G none 0 (loopAt P 22 0) { env := slots 47 [(0, AV.sl 2 false (encs a)), (1, AV.sl 2 false (encs b)), (4, nilS), (5, int 0), (7, AV.sl 1 false (ints (devs a b))), (8, nilS), (9, int 0)], H := [] } (AEx.exit 0) { env := slots 47 [(8, nilS)], H := [] }]) := by kernel_rfl

theorem rjoin_f_p2 (a : List D) (b : List D) : runF P G 22 [vec a, vec b] [] [Orc.call [] (AOut.ret (int (check2E a b))) [], Orc.br false, Orc.call [] (AOut.ret (AV.sl 1 false (ints (devs a b)))) [], Orc.loop [2, 3, 6, 10, 11, 12, 13, 14, 15, 16, 17, 18, 19, 20, 21, 22, 23, 24, 25, 26, 27, 28, 29, 30, 31, 32, 33, 34, 35, 36, 37, 38, 39, 40, 41, 42, 43, 44, 45, 46] 0 (AEx.exit 0) [AV.dead, AV.dead, AV.dead, AV.dead, AV.dead, AV.dead, AV.dead, AV.dead, AV.own 0 (List.length (List.filterMap (joinF a b) (devs a b)) - 1) 0 (List.length (List.filterMap (joinF a b) (devs a b))), AV.dead, AV.dead, AV.dead, AV.dead, AV.dead, AV.dead, AV.dead, AV.dead, AV.dead, AV.dead, AV.dead, AV.dead, AV.dead, AV.dead, AV.dead, AV.dead, AV.dead, AV.dead, AV.dead, AV.dead, AV.dead, AV.dead, AV.dead, AV.dead, AV.dead, AV.dead, AV.dead, AV.dead, AV.dead, AV.dead, AV.dead, AV.dead, AV.dead, AV.dead, AV.dead, AV.dead, AV.dead, AV.dead] [AObj.arr (List.length (List.filterMap (joinF a b) (devs a b)) - 1) 2 false (encs (List.filterMap (joinF a b) (devs a b)))], Orc.frz (encs (List.filterMap (joinF a b) (devs a b)))] =
    some (AOut.ret (AV.tup [AV.sl 2 false (encs (List.filterMap (joinF a b) (devs a b))), int 0]), [], [CallC P G 32 [AV.sl 2 false (encs a), AV.sl 2 false (encs b)] [] (AOut.ret (int (check2E a b))) [], (check2E a b != 0) = false, CallC P G 33 [AV.sl 2 false (encs a), AV.sl 2 false (encs b)] [] (AOut.ret (AV.sl 1 false (ints (devs a b)))) [], RunL P G none 0 (loopAt P 22 0) { env := slots 47 [(0, AV.sl 2 false (encs a)), (1, AV.sl 2 false (encs b)), (4, nilS), (5, int 0), (7, AV.sl 1 false (ints (devs a b))), (8, nilS), (9, int 0)], H := [] } (AEx.exit 0) { env := slots 47 [(8, AV.own 0 (List.length (List.filterMap (joinF a b) (devs a b)) - 1) 0 (List.length (List.filterMap (joinF a b) (devs a b))))], H := [AObj.arr (List.length (List.filterMap (joinF a b) (devs a b)) - 1) 2 false (encs (List.filterMap (joinF a b) (devs a b)))] }, List.length (List.filterMap (joinF a b) (devs a b)) - 1 = List.length (List.filterMap (joinF a b) (devs a b)) - 1, List.take (List.length (List.filterMap (joinF a b) (devs a b))) (List.drop 0 (encs (List.filterMap (joinF a b) (devs a b)))) = encs (List.filterMap (joinF a b) (devs a b)), List.length (encs (List.filterMap (joinF a b) (devs a b))) = List.length (List.filterMap (joinF a b) (devs a b)), ∀ (c : List AV), c ∈ encs (List.filterMap (joinF a b) (devs a b)) → List.all c AV.pureB = true]) := by kernel_rfl

theorem rjoin_f (a b : List D) (ha : a.length ≤ 1000000000) (hb : b.length ≤ 1000000000) (hB : ∀ y ∈ b, y.1 < 512) (hd : (devs a b).length ≤ 2000000000) (he : check2E a b = 0) (h : (((List.filterMap (joinF a b) (devs a b) = []) → [] = joinV a b) ∧ ((¬List.filterMap (joinF a b) (devs a b) = []) → True))) : CallC P G 22 [vec a, vec b] [] (AOut.ret (AV.tup [vec (joinV a b), int 0])) [] := by
  by_cases c2 : (List.filterMap (joinF a b) (devs a b) = [])
  · have h := h.1 c2
    have e1 := h
    exact CallC.out (callC_of_run _ (rjoin_f_p1 a b) ⟨(@Go.Vec.rcheck2_c (a) (b) (by omega) (by omega)), (congrArg Bool.not (decide_eq_true (by omega))), (@Go.Vec.dev_c (a) (b) (by omega) (by omega) (by omega)), (by have h0 := (@Go.Vec.rj_l (a) (b) (devs a b) (by omega) (by omega) (by omega)); simp only [if_pos c2] at h0; exact h0), trivial⟩) (Sub.tups ⟨(Sub.nil_eq (congrArg (List.map enc) e1)), Sub.refl _, trivial⟩)
  · have h := h.2 c2
    have _ := h
    exact callC_of_run _ (rjoin_f_p2 a b) ⟨(@Go.Vec.rcheck2_c (a) (b) (by omega) (by omega)), (congrArg Bool.not (decide_eq_true (by omega))), (@Go.Vec.dev_c (a) (b) (by omega) (by omega) (by omega)), (by have h0 := (@Go.Vec.rj_l (a) (b) (devs a b) (by omega) (by omega) (by omega)); simp only [if_neg c2] at h0; exact h0), (rfl), (Go.Vec.encs_all _), (Go.Vec.encs_length _), (Go.Vec.encs_pure _), trivial⟩


theorem rjoin_e_p1 (a : List D) (b : List D) : runF P G 22 [vec a, vec b] [] [Orc.call [] (AOut.ret (int (check2E a b))) [], Orc.br true] =
    some (AOut.ret (AV.tup [nilS, int (check2E a b)]), [], [CallC P G 32 [AV.sl 2 false (encs a), AV.sl 2 false (encs b)] [] (AOut.ret (int (check2E a b))) [], (check2E a b != 0) = true]) := by kernel_rfl

theorem rjoin_e (a b : List D) (ha : a.length ≤ 1000000000) (hb : b.length ≤ 1000000000) (he : ¬ check2E a b = 0) (h : True) : CallC P G 22 [vec a, vec b] [] (AOut.ret (AV.tup [vec [], int (check2E a b)])) [] := by
  have _ := h
  exact CallC.out (callC_of_run _ (rjoin_e_p1 a b) ⟨(@Go.Vec.rcheck2_c (a) (b) (by omega) (by omega)), (congrArg Bool.not (decide_eq_false (by omega))), trivial⟩) (Sub.tups ⟨Sub.nil _, Sub.refl _, trivial⟩)


theorem rmeet_f_p1 (a : List D) (b : List D) : runF P G 24 [vec a, vec b] [] [Orc.call [] (AOut.ret (int (check2E a b))) [], Orc.br false, Orc.call [] (AOut.ret (AV.sl 1 false (ints (devs a b)))) [], Orc.loop [2, 3, 6, 10, 11, 12, 13, 14, 15, 16, 17, 18, 19, 20, 21, 22, 23, 24, 25, 26, 27, 28, 29, 30, 31, 32, 33, 34, 35, 36, 37, 38, 39, 40, 41, 42, 43, 44, 45, 46, 47, 48, 49, 50] 0 (AEx.exit 0) [AV.dead, AV.dead, AV.dead, AV.dead, AV.dead, AV.dead, AV.dead, AV.dead, nilS, AV.dead, AV.dead, AV.dead, AV.dead, AV.dead, AV.dead, AV.dead, AV.dead, AV.dead, AV.dead, AV.dead, AV.dead, AV.dead, AV.dead, AV.dead, AV.dead, AV.dead, AV.dead, AV.dead, AV.dead, AV.dead, AV.dead, AV.dead, AV.dead, AV.dead, AV.dead, AV.dead, AV.dead, AV.dead, AV.dead, AV.dead, AV.dead, AV.dead, AV.dead, AV.dead, AV.dead, AV.dead, AV.dead, AV.dead, AV.dead, AV.dead, AV.dead] []] =
    some (AOut.ret (AV.tup [nilS, int 0]), [], [CallC P G 32 [AV.sl 2 false (encs a), AV.sl 2 false (encs b)] [] (AOut.ret (int (check2E a b))) [], (check2E a b != 0) = false, CallC P G 33 [AV.sl 2 false (encs a), AV.sl 2 false (encs b)] [] (AOut.ret (AV.sl 1 false (ints (devs a b)))) [], RunL P G none 0 (loopAt P 24 0) { env := slots 51 [(0, AV.sl 2 false (encs a)), (1, AV.sl 2 false (encs b)), (4, nilS), (5, int 0), (7, AV.sl 1 false (ints (devs a b))), (8, nilS), (9, int 0)], H := [] } (AEx.exit 0) { env := slots 51 [(8, nilS)], H := [] }]) := by kernel_rfl

theorem rmeet_f_p2 (a : List D) (b : List D) : runF P G 24 [vec a, vec b] [] [Orc.call [] (AOut.ret (int (check2E a b))) [], Orc.br false, Orc.call [] (AOut.ret (AV.sl 1 false (ints (devs a b)))) [], Orc.loop [2, 3, 6, 10, 11, 12, 13, 14, 15, 16, 17, 18, 19, 20, 21, 22, 23, 24, 25, 26, 27, 28, 29, 30, 31, 32, 33, 34, 35, 36, 37, 38, 39, 40, 41, 42, 43, 44, 45, 46, 47, 48, 49, 50] 0 (AEx.exit 0) [AV.dead, AV.dead, AV.dead, AV.dead, AV.dead, AV.dead, AV.dead, AV.dead, AV.own 0 (List.length (List.filterMap (meetF a b) (devs a b)) - 1) 0 (List.length (List.filterMap (meetF a b) (devs a b))), AV.dead, AV.dead, AV.dead, AV.dead, AV.dead, AV.dead, AV.dead, AV.dead, AV.dead, AV.dead, AV.dead, AV.dead, AV.dead, AV.dead, AV.dead, AV.dead, AV.dead, AV.dead, AV.dead, AV.dead, AV.dead, AV.dead, AV.dead, AV.dead, AV.dead, AV.dead, AV.dead, AV.dead, AV.dead, AV.dead, AV.dead, AV.dead, AV.dead, AV.dead, AV.dead, AV.dead, AV.dead, AV.dead, AV.dead, AV.dead, AV.dead, AV.dead] [AObj.arr (List.length (List.filterMap (meetF a b) (devs a b)) - 1) 2 false (encs (List.filterMap (meetF a b) (devs a b)))], Orc.frz (encs (List.filterMap (meetF a b) (devs a b)))] =
    some (AOut.ret (AV.tup [AV.sl 2 false (encs (List.filterMap (meetF a b) (devs a b))), int 0]), [], [CallC P G 32 [AV.sl 2 false (encs a), AV.sl 2 false (encs b)] [] (AOut.ret (int (check2E a b))) [], (check2E a b != 0) = false, CallC P G 33 [AV.sl 2 false (encs a), AV.sl 2 false (encs b)] [] (AOut.ret (AV.sl 1 false (ints (devs a b)))) [], RunL P G none 0 (loopAt P 24 0) { env := slots 51 [(0, AV.sl 2 false (encs a)), (1, AV.sl 2 false (encs b)), (4, nilS), (5, int 0), (7, AV.sl 1 false (ints (devs a b))), (8, nilS), (9, int 0)], H := [] } (AEx.exit 0) { env := slots 51 [(8, AV.own 0 (List.length (List.filterMap (meetF a b) (devs a b)) - 1) 0 (List.length (List.filterMap (meetF a b) (devs a b))))], H := [AObj.arr (List.length (List.filterMap (meetF a b) (devs a b)) - 1) 2 false (encs (List.filterMap (meetF a b) (devs a b)))] }, List.length (List.filterMap (meetF a b) (devs a b)) - 1 = List.length (List.filterMap (meetF a b) (devs a b)) - 1, List.take (List.length (List.filterMap (meetF a b) (devs a b))) (List.drop 0 (encs (List.filterMap (meetF a b) (devs a b)))) = encs (List.filterMap (meetF a b) (devs a b)), List.length (encs (List.filterMap (meetF a b) (devs a b))) = List.length (List.filterMap (meetF a b) (devs a b)), ∀ (c : List AV), c ∈ encs (List.filterMap (meetF a b) (devs a b)) → List.all c AV.pureB = true]) := by kernel_rfl

theorem rmeet_f (a b : List D) (ha : a.length ≤ 1000000000) (hb : b.length ≤ 1000000000) (hB : ∀ y ∈ b, y.1 < 512) (hd : (devs a b).length ≤ 2000000000) (he : check2E a b = 0) (h : (((List.filterMap (meetF a b) (devs a b) = []) → [] = meetV a b) ∧ ((¬List.filterMap (meetF a b) (devs a b) = []) → True))) : CallC P G 24 [vec a, vec b] [] (AOut.ret (AV.tup [vec (meetV a b), int 0])) [] := by
  by_cases c2 : (List.filterMap (meetF a b) (devs a b) = [])
  · have h := h.1 c2
    have e1 := h
    exact CallC.out (callC_of_run _ (rmeet_f_p1 a b) ⟨(@Go.Vec.rcheck2_c (a) (b) (by omega) (by omega)), (congrArg Bool.not (decide_eq_true (by omega))), (@Go.Vec.dev_c (a) (b) (by omega) (by omega) (by omega)), (by have h0 := (@Go.Vec.rm_l (a) (b) (devs a b) (by omega) (by omega) (by omega)); simp only [if_pos c2] at h0; exact h0), trivial⟩) (Sub.tups ⟨(Sub.nil_eq (congrArg (List.map enc) e1)), Sub.refl _, trivial⟩)
  · have h := h.2 c2
    have _ := h
    exact callC_of_run _ (rmeet_f_p2 a b) ⟨(@Go.Vec.rcheck2_c (a) (b) (by omega) (by omega)), (congrArg Bool.not (decide_eq_true (by omega))), (@Go.Vec.dev_c (a) (b) (by omega) (by omega) (by omega)), (by have h0 := (@Go.Vec.rm_l (a) (b) (devs a b) (by omega) (by omega) (by omega)); simp only [if_neg c2] at h0; exact h0), (rfl), (Go.Vec.encs_all _), (Go.Vec.encs_length _), (Go.Vec.encs_pure _), trivial⟩


theorem rmeet_e_p1 (a : List D) (b : List D) : runF P G 24 [vec a, vec b] [] [Orc.call [] (AOut.ret (int (check2E a b))) [], Orc.br true] =
    some (AOut.ret (AV.tup [nilS, int (check2E a b)]), [], [CallC P G 32 [AV.sl 2 false (encs a), AV.sl 2 false (encs b)] [] (AOut.ret (int (check2E a b))) [], (check2E a b != 0) = true]) := by kernel_rfl

theorem rmeet_e (a b : List D) (ha : a.length ≤ 1000000000) (hb : b.length ≤ 1000000000) (he : ¬ check2E a b = 0) (h : True) : CallC P G 24 [vec a, vec b] [] (AOut.ret (AV.tup [vec [], int (check2E a b)])) [] := by
  have _ := h
  exact CallC.out (callC_of_run _ (rmeet_e_p1 a b) ⟨(@Go.Vec.rcheck2_c (a) (b) (by omega) (by omega)), (congrArg Bool.not (decide_eq_false (by omega))), trivial⟩) (Sub.tups ⟨Sub.nil _, Sub.refl _, trivial⟩)


def compN (a b : List D) : Int := if mostB a b = true then (if mostB b a = true then 0 else -1) else if mostB b a = true then 1 else 2
def compE (a b : List D) : Int := if check2E a b = 0 then compN a b else 0

theorem rcomp_f_p1 (a : List D) (b : List D) : runF P G 26 [vec a, vec b] [] [Orc.call [] (AOut.ret (int (check2E a b))) [], Orc.br false, Orc.call [] (AOut.ret (Am.bool (mostB a b))) [], Orc.br true, Orc.call [] (AOut.ret (Am.bool (mostB b a))) [], Orc.br true] =
    some (AOut.ret (AV.tup [int 0, int 0]), [], [CallC P G 32 [AV.sl 2 false (encs a), AV.sl 2 false (encs b)] [] (AOut.ret (int (check2E a b))) [], (check2E a b != 0) = false, CallC P G 36 [AV.sl 2 false (encs a), AV.sl 2 false (encs b)] [] (AOut.ret (Am.bool (mostB a b))) [], mostB a b = true, CallC P G 36 [AV.sl 2 false (encs b), AV.sl 2 false (encs a)] [] (AOut.ret (Am.bool (mostB b a))) [], mostB b a = true]) := by kernel_rfl

theorem rcomp_f_p2 (a : List D) (b : List D) : runF P G 26 [vec a, vec b] [] [Orc.call [] (AOut.ret (int (check2E a b))) [], Orc.br false, Orc.call [] (AOut.ret (Am.bool (mostB a b))) [], Orc.br true, Orc.call [] (AOut.ret (Am.bool (mostB b a))) [], Orc.br false, Orc.call [] (AOut.ret (Am.bool (mostB a b))) [], Orc.br true] =
    some (AOut.ret (AV.tup [int (-1), int 0]), [], [CallC P G 32 [AV.sl 2 false (encs a), AV.sl 2 false (encs b)] [] (AOut.ret (int (check2E a b))) [], (check2E a b != 0) = false, CallC P G 36 [AV.sl 2 false (encs a), AV.sl 2 false (encs b)] [] (AOut.ret (Am.bool (mostB a b))) [], mostB a b = true, CallC P G 36 [AV.sl 2 false (encs b), AV.sl 2 false (encs a)] [] (AOut.ret (Am.bool (mostB b a))) [], mostB b a = false, CallC P G 36 [AV.sl 2 false (encs a), AV.sl 2 false (encs b)] [] (AOut.ret (Am.bool (mostB a b))) [], mostB a b = true]) := by kernel_rfl

theorem rcomp_f_p3 (a : List D) (b : List D) : runF P G 26 [vec a, vec b] [] [Orc.call [] (AOut.ret (int (check2E a b))) [], Orc.br false, Orc.call [] (AOut.ret (Am.bool (mostB a b))) [], Orc.br false, Orc.br false, Orc.call [] (AOut.ret (Am.bool (mostB a b))) [], Orc.br false, Orc.call [] (AOut.ret (Am.bool (mostB b a))) [], Orc.br true] =
    some (AOut.ret (AV.tup [int 1, int 0]), [], [CallC P G 32 [AV.sl 2 false (encs a), AV.sl 2 false (encs b)] [] (AOut.ret (int (check2E a b))) [], (check2E a b != 0) = false, CallC P G 36 [AV.sl 2 false (encs a), AV.sl 2 false (encs b)] [] (AOut.ret (Am.bool (mostB a b))) [], mostB a b = false, false = false, CallC P G 36 [AV.sl 2 false (encs a), AV.sl 2 false (encs b)] [] (AOut.ret (Am.bool (mostB a b))) [], mostB a b = false, CallC P G 36 [AV.sl 2 false (encs b), AV.sl 2 false (encs a)] [] (AOut.ret (Am.bool (mostB b a))) [], mostB b a = true]) := by kernel_rfl

theorem rcomp_f_p4 (a : List D) (b : List D) : runF P G 26 [vec a, vec b] [] [Orc.call [] (AOut.ret (int (check2E a b))) [], Orc.br false, Orc.call [] (AOut.ret (Am.bool (mostB a b))) [], Orc.br false, Orc.br false, Orc.call [] (AOut.ret (Am.bool (mostB a b))) [], Orc.br false, Orc.call [] (AOut.ret (Am.bool (mostB b a))) [], Orc.br false] =
    some (AOut.ret (AV.tup [int 2, int 0]), [], [CallC P G 32 [AV.sl 2 false (encs a), AV.sl 2 false (encs b)] [] (AOut.ret (int (check2E a b))) [], (check2E a b != 0) = false, CallC P G 36 [AV.sl 2 false (encs a), AV.sl 2 false (encs b)] [] (AOut.ret (Am.bool (mostB a b))) [], mostB a b = false, false = false, CallC P G 36 [AV.sl 2 false (encs a), AV.sl 2 false (encs b)] [] (AOut.ret (Am.bool (mostB a b))) [], mostB a b = false, CallC P G 36 [AV.sl 2 false (encs b), AV.sl 2 false (encs a)] [] (AOut.ret (Am.bool (mostB b a))) [], mostB b a = false]) := by kernel_rfl

theorem rcomp_f_p5 (a : List D) (b : List D) : runF P G 26 [vec a, vec b] [] [Orc.call [] (AOut.ret (int (check2E a b))) [], Orc.br true] =
    some (AOut.ret (AV.tup [int 0, int (check2E a b)]), [], [CallC P G 32 [AV.sl 2 false (encs a), AV.sl 2 false (encs b)] [] (AOut.ret (int (check2E a b))) [], (check2E a b != 0) = true]) := by kernel_rfl

theorem rcomp_f (a b : List D) (ha : a.length ≤ 1000000000) (hb : b.length ≤ 1000000000) (h : (((check2E a b = 0) → ((((mostB a b) = true) → ((((mostB b a) = true) → ((0 : Int) = compE a b) ∧ ((0 : Int) = check2E a b)) ∧ (((mostB b a) = false) → ((-1 : Int) = compE a b) ∧ ((0 : Int) = check2E a b)))) ∧ (((mostB a b) = false) → ((((mostB b a) = true) → ((1 : Int) = compE a b) ∧ ((0 : Int) = check2E a b)) ∧ (((mostB b a) = false) → ((2 : Int) = compE a b) ∧ ((0 : Int) = check2E a b)))))) ∧ ((¬check2E a b = 0) → (0 : Int) = compE a b))) : CallC P G 26 [vec a, vec b] [] (AOut.ret (AV.tup [int (compE a b), int (check2E a b)])) [] := by
  by_cases c1 : (check2E a b = 0)
  · have h := h.1 c1
    rcases Bool.eq_false_or_eq_true ((mostB a b)) with c2 | c2
    · have h := h.1 c2
      rcases Bool.eq_false_or_eq_true ((mostB b a)) with c3 | c3
      · have h := h.1 c3
        obtain ⟨e1, e2⟩ := h
        exact CallC.out (callC_of_run _ (rcomp_f_p1 a b) ⟨(@Go.Vec.rcheck2_c (a) (b) (by omega) (by omega)), (congrArg Bool.not (beq_iff_eq.2 c1)), (@Go.Vec.most_c (a) (b) (by omega) (by omega)), (c2), (@Go.Vec.most_c (b) (a) (by omega) (by omega)), (c3), trivial⟩) (Sub.tups ⟨(Sub.int_eq e1), (Sub.int_eq e2), trivial⟩)
      · have h := h.2 c3
        obtain ⟨e1, e2⟩ := h
        exact CallC.out (callC_of_run _ (rcomp_f_p2 a b) ⟨(@Go.Vec.rcheck2_c (a) (b) (by omega) (by omega)), (congrArg Bool.not (beq_iff_eq.2 c1)), (@Go.Vec.most_c (a) (b) (by omega) (by omega)), (c2), (@Go.Vec.most_c (b) (a) (by omega) (by omega)), (c3), (@Go.Vec.most_c (a) (b) (by omega) (by omega)), (c2), trivial⟩) (Sub.tups ⟨(Sub.int_eq e1), (Sub.int_eq e2), trivial⟩)
    · have h := h.2 c2
      rcases Bool.eq_false_or_eq_true ((mostB b a)) with c4 | c4
      · have h := h.1 c4
        obtain ⟨e1, e2⟩ := h
        exact CallC.out (callC_of_run _ (rcomp_f_p3 a b) ⟨(@Go.Vec.rcheck2_c (a) (b) (by omega) (by omega)), (congrArg Bool.not (beq_iff_eq.2 c1)), (@Go.Vec.most_c (a) (b) (by omega) (by omega)), (c2), (rfl), (@Go.Vec.most_c (a) (b) (by omega) (by omega)), (c2), (@Go.Vec.most_c (b) (a) (by omega) (by omega)), (c4), trivial⟩) (Sub.tups ⟨(Sub.int_eq e1), (Sub.int_eq e2), trivial⟩)
      · have h := h.2 c4
        obtain ⟨e1, e2⟩ := h
        exact CallC.out (callC_of_run _ (rcomp_f_p4 a b) ⟨(@Go.Vec.rcheck2_c (a) (b) (by omega) (by omega)), (congrArg Bool.not (beq_iff_eq.2 c1)), (@Go.Vec.most_c (a) (b) (by omega) (by omega)), (c2), (rfl), (@Go.Vec.most_c (a) (b) (by omega) (by omega)), (c2), (@Go.Vec.most_c (b) (a) (by omega) (by omega)), (c4), trivial⟩) (Sub.tups ⟨(Sub.int_eq e1), (Sub.int_eq e2), trivial⟩)
  · have h := h.2 c1
    have e1 := h
    exact CallC.out (callC_of_run _ (rcomp_f_p5 a b) ⟨(@Go.Vec.rcheck2_c (a) (b) (by omega) (by omega)), (congrArg Bool.not (beq_eq_false_iff_ne.2 c1)), trivial⟩) (Sub.tups ⟨(Sub.int_eq e1), Sub.refl _, trivial⟩)


theorem rcomp_c (a b : List D) (ha : a.length ≤ 1000000000) (hb : b.length ≤ 1000000000) : CallC P G 26 [vec a, vec b] [] (.ret (.tup [int (compE a b), int (check2E a b)])) [] :=
  rcomp_f a b ha hb ⟨fun h => by simp only [compE, compN, h]; exact ⟨fun h1 => ⟨fun h2 => by simp [h1, h2], fun h2 => by simp [h1, h2]⟩, fun h1 => ⟨fun h2 => by simp [h1, h2], fun h2 => by simp [h1, h2]⟩⟩, fun h => by simp [compE, h]⟩

end Go.Vec
