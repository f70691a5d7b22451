/- VECTOR, 7: the program's Join, Meet, With and Compare; the reference's With. -/
import Derived.KernelRfl
import Derived.Test.YtpnoncfhclchdaaDoorV6
import Derived.Test.YtpnoncfhclchdaaDoorV3
namespace Go.Vec
open Go Go.Am Go.Proofs

theorem mg_c (a b : List D) (ha : a.length ≤ 1000000000) (hb : b.length ≤ 1000000000) (he : check2E a b = 0) : CallC P G 31 [.agg [rl 54], vec a, vec b] [] (.ret (.tup [vec (mergeV gmax a b), int 0])) [] :=
  mg_w a b ha hb he ⟨fun h => h.symm, fun _ => trivial⟩

theorem ml_w_p1 (a : List D) (b : List D) : runF P G 31 [AV.agg [rl 55], vec a, vec b] [] [Orc.call [] (AOut.ret (int (check2E a b))) [], Orc.br false, Orc.call [] (AOut.ret (AV.fn (Fn.func 37) [] [AV.ptr 0 0, AV.ptr 1 0])) [AObj.box [vec a], AObj.box [vec b]], Orc.range [0, 1, 2, 4, 5, 7, 8, 9, 10, 11, 12, 13, 14, 15, 16, 17, 18, 19, 20, 21, 22, 23, 24, 25, 26, 27, 28, 29, 30, 31, 32, 33, 34] 0 none AEx.normal [] [], Orc.call [5, 2, 3, 0, 1] (AOut.ret (AV.tup [])) (q0 55 [] [])] =
    some (AOut.ret (AV.tup [nilS, int 0]), [], [CallC P G 34 [AV.sl 2 false (encs a), AV.sl 2 false (encs b)] [] (AOut.ret (int (check2E a b))) [], (check2E a b != 0) = false, CallC P G 35 [AV.sl 2 false (encs a), AV.sl 2 false (encs b)] [] (AOut.ret (AV.fn (Fn.func 37) [] [AV.ptr 0 0, AV.ptr 1 0])) [AObj.box [AV.sl 2 false (encs a)], AObj.box [AV.sl 2 false (encs b)]], CallC P G 37 [AV.yl 0, AV.ptr 1 0, AV.ptr 2 0] [AObj.rng LoopState.ready none (slots 35 [(3, AV.ptr 3 0), (6, AV.ptr 4 0)]) { toList := [20] } (asgAt P 31 0) (rbodyAt P 31 0), AObj.box [AV.sl 2 false (encs a)], AObj.box [AV.sl 2 false (encs b)], AObj.box [AV.lit (Value.func (Fn.func 55) { toList := [] } { toList := [] })], AObj.box [nilS]] (AOut.ret (AV.tup [])) [jrng, AObj.box [AV.sl 2 false []], AObj.box [AV.sl 2 false []], AObj.box [AV.lit (Value.func (Fn.func 55) { toList := [] } { toList := [] })], AObj.box [nilS]]]) := by kernel_rfl

theorem ml_w_p2 (a : List D) (b : List D) : runF P G 31 [AV.agg [rl 55], vec a, vec b] [] [Orc.call [] (AOut.ret (int (check2E a b))) [], Orc.br false, Orc.call [] (AOut.ret (AV.fn (Fn.func 37) [] [AV.ptr 0 0, AV.ptr 1 0])) [AObj.box [vec a], AObj.box [vec b]], Orc.range [0, 1, 2, 4, 5, 7, 8, 9, 10, 11, 12, 13, 14, 15, 16, 17, 18, 19, 20, 21, 22, 23, 24, 25, 26, 27, 28, 29, 30, 31, 32, 33, 34] 0 none AEx.normal [] [], Orc.call [5, 2, 3, 0, 1] (AOut.ret (AV.tup [])) (q1 55 [] [] (List.length (mergeV gmin a b) - 1) (mergeV gmin a b)), Orc.fz (some 34) (encs (mergeV gmin a b))] =
    some (AOut.ret (AV.tup [AV.sl 2 false (encs (mergeV gmin a b)), int 0]), [], [CallC P G 34 [AV.sl 2 false (encs a), AV.sl 2 false (encs b)] [] (AOut.ret (int (check2E a b))) [], (check2E a b != 0) = false, CallC P G 35 [AV.sl 2 false (encs a), AV.sl 2 false (encs b)] [] (AOut.ret (AV.fn (Fn.func 37) [] [AV.ptr 0 0, AV.ptr 1 0])) [AObj.box [AV.sl 2 false (encs a)], AObj.box [AV.sl 2 false (encs b)]], CallC P G 37 [AV.yl 0, AV.ptr 1 0, AV.ptr 2 0] [AObj.rng LoopState.ready none (slots 35 [(3, AV.ptr 3 0), (6, AV.ptr 4 0)]) { toList := [20] } (asgAt P 31 0) (rbodyAt P 31 0), AObj.box [AV.sl 2 false (encs a)], AObj.box [AV.sl 2 false (encs b)], AObj.box [AV.lit (Value.func (Fn.func 55) { toList := [] } { toList := [] })], AObj.box [nilS]] (AOut.ret (AV.tup [])) [jrng, AObj.box [AV.sl 2 false []], AObj.box [AV.sl 2 false []], AObj.box [AV.lit (Value.func (Fn.func 55) { toList := [] } { toList := [] })], AObj.box [AV.own 7 (List.length (mergeV gmin a b) - 1) 0 (List.length (mergeV gmin a b))], AObj.gone, AObj.gone, AObj.arr (List.length (mergeV gmin a b) - 1) 2 false (encs (mergeV gmin a b))], ∀ (x : List AV), x ∈ encs (mergeV gmin a b) → AV.idsInL [] x = true, List.length (mergeV gmin a b) - 1 = List.length (mergeV gmin a b) - 1, List.take (List.length (mergeV gmin a b)) (List.drop 0 (encs (mergeV gmin a b))) = encs (mergeV gmin a b), List.length (encs (mergeV gmin a b)) = List.length (mergeV gmin a b), ∀ (c : List AV), c ∈ encs (mergeV gmin a b) → List.all c AV.pureB = true]) := by kernel_rfl

theorem ml_w (a b : List D) (ha : a.length ≤ 1000000000) (hb : b.length ≤ 1000000000) (he : check2E a b = 0) (h : (((mergeV gmin a b = []) → [] = mergeV gmin a b) ∧ ((¬mergeV gmin a b = []) → True))) : CallC P G 31 [AV.agg [rl 55], vec a, vec b] [] (AOut.ret (AV.tup [vec (mergeV gmin a b), int 0])) [] := by
  by_cases c2 : (mergeV gmin a b = [])
  · have h := h.1 c2
    have e1 := h
    exact CallC.out (callC_of_run _ (ml_w_p1 a b) ⟨(@Go.Vec.check2_c (a) (b) (by omega) (by omega)), (congrArg Bool.not (decide_eq_true (by omega))), (@Go.Vec.pairs_c (a) (b)), (by have h0 := (@Go.Vec.p37l_c (a) (b) (by omega) (by omega)); simp only [if_pos c2] at h0; exact h0), trivial⟩) (Sub.tups ⟨(Sub.nil_eq (congrArg (List.map enc) e1)), Sub.refl _, trivial⟩)
  · have h := h.2 c2
    have _ := h
    exact callC_of_run _ (ml_w_p2 a b) ⟨(@Go.Vec.check2_c (a) (b) (by omega) (by omega)), (congrArg Bool.not (decide_eq_true (by omega))), (@Go.Vec.pairs_c (a) (b)), (by have h0 := (@Go.Vec.p37l_c (a) (b) (by omega) (by omega)); simp only [if_neg c2] at h0; exact h0), (Go.Vec.encs_ids _), (rfl), (Go.Vec.encs_all _), (Go.Vec.encs_length _), (Go.Vec.encs_pure _), trivial⟩


theorem ml_c (a b : List D) (ha : a.length ≤ 1000000000) (hb : b.length ≤ 1000000000) (he : check2E a b = 0) : CallC P G 31 [.agg [rl 55], vec a, vec b] [] (.ret (.tup [vec (mergeV gmin a b), int 0])) [] :=
  ml_w a b ha hb he ⟨fun h => h.symm, fun _ => trivial⟩

theorem mg_e_p1 (a : List D) (b : List D) (f : Nat) : runF P G 31 [AV.agg [rl f], vec a, vec b] [] [Orc.call [] (AOut.ret (int (check2E a b))) [], Orc.br true] =
    some (AOut.ret (AV.tup [nilS, int (check2E a b)]), [], [CallC P G 34 [AV.sl 2 false (encs a), AV.sl 2 false (encs b)] [] (AOut.ret (int (check2E a b))) [], (check2E a b != 0) = true]) := by kernel_rfl

theorem mg_e (a b : List D) (ha : a.length ≤ 1000000000) (hb : b.length ≤ 1000000000) (he : ¬ check2E a b = 0) (f : Nat) (h : True) : CallC P G 31 [AV.agg [rl f], vec a, vec b] [] (AOut.ret (AV.tup [vec [], int (check2E a b)])) [] := by
  have _ := h
  exact CallC.out (callC_of_run _ (mg_e_p1 a b f) ⟨(@Go.Vec.check2_c (a) (b) (by omega) (by omega)), (congrArg Bool.not (decide_eq_false (by omega))), trivial⟩) (Sub.tups ⟨Sub.nil _, Sub.refl _, trivial⟩)


theorem mg_ec (f : Nat) (a b : List D) (ha : a.length ≤ 1000000000) (hb : b.length ≤ 1000000000) (he : ¬ check2E a b = 0) : CallC P G 31 [.agg [rl f], vec a, vec b] [] (.ret (.tup [vec [], int (check2E a b)])) [] := mg_e a b ha hb he f trivial

/-! Join, Meet, With -/
def joinE (a b : List D) : List D := if check2E a b = 0 then mergeV gmax a b else []
def meetE (a b : List D) : List D := if check2E a b = 0 then mergeV gmin a b else []
theorem mg_j (a b : List D) (ha : a.length ≤ 1000000000) (hb : b.length ≤ 1000000000) : CallC P G 31 [.agg [rl 54], vec a, vec b] [] (.ret (.tup [vec (joinE a b), int (check2E a b)])) [] := by
  unfold joinE
  by_cases h : check2E a b = 0
  · rw [if_pos h, h]; exact mg_c a b ha hb h
  · rw [if_neg h]; exact mg_ec 54 a b ha hb h
theorem mg_m (a b : List D) (ha : a.length ≤ 1000000000) (hb : b.length ≤ 1000000000) : CallC P G 31 [.agg [rl 55], vec a, vec b] [] (.ret (.tup [vec (meetE a b), int (check2E a b)])) [] := by
  unfold meetE
  by_cases h : check2E a b = 0
  · rw [if_pos h, h]; exact ml_c a b ha hb h
  · rw [if_neg h]; exact mg_ec 55 a b ha hb h

theorem join_w_p1 (a : List D) (b : List D) : runF P G 21 [vec a, vec b] [] [Orc.call [] (AOut.ret (AV.tup [vec (joinE a b), int (check2E a b)])) []] =
    some (AOut.ret (AV.tup [AV.sl 2 false (encs (joinE a b)), int (check2E a b)]), [], [CallC P G 31 [AV.agg [AV.lit (Value.func (Fn.func 54) { toList := [] } { toList := [] })], AV.sl 2 false (encs a), AV.sl 2 false (encs b)] [] (AOut.ret (AV.tup [AV.sl 2 false (encs (joinE a b)), int (check2E a b)])) []]) := by kernel_rfl

theorem join_w (a b : List D) (ha : a.length ≤ 1000000000) (hb : b.length ≤ 1000000000) (h : True) : CallC P G 21 [vec a, vec b] [] (AOut.ret (AV.tup [vec (joinE a b), int (check2E a b)])) [] := by
  have _ := h
  exact callC_of_run _ (join_w_p1 a b) ⟨(@Go.Vec.mg_j (a) (b) (by omega) (by omega)), trivial⟩


theorem join_c (a b : List D) (ha : a.length ≤ 1000000000) (hb : b.length ≤ 1000000000) : CallC P G 21 [vec a, vec b] [] (.ret (.tup [vec (joinE a b), int (check2E a b)])) [] := join_w a b ha hb trivial

theorem meet_w_p1 (a : List D) (b : List D) : runF P G 23 [vec a, vec b] [] [Orc.call [] (AOut.ret (AV.tup [vec (meetE a b), int (check2E a b)])) []] =
    some (AOut.ret (AV.tup [AV.sl 2 false (encs (meetE a b)), int (check2E a b)]), [], [CallC P G 31 [AV.agg [AV.lit (Value.func (Fn.func 55) { toList := [] } { toList := [] })], AV.sl 2 false (encs a), AV.sl 2 false (encs b)] [] (AOut.ret (AV.tup [AV.sl 2 false (encs (meetE a b)), int (check2E a b)])) []]) := by kernel_rfl

theorem meet_w (a b : List D) (ha : a.length ≤ 1000000000) (hb : b.length ≤ 1000000000) (h : True) : CallC P G 23 [vec a, vec b] [] (AOut.ret (AV.tup [vec (meetE a b), int (check2E a b)])) [] := by
  have _ := h
  exact callC_of_run _ (meet_w_p1 a b) ⟨(@Go.Vec.mg_m (a) (b) (by omega) (by omega)), trivial⟩


theorem meet_c (a b : List D) (ha : a.length ≤ 1000000000) (hb : b.length ≤ 1000000000) : CallC P G 23 [vec a, vec b] [] (.ret (.tup [vec (meetE a b), int (check2E a b)])) [] := meet_w a b ha hb trivial

theorem with_w_p1 (a : List D) (x : Int) (y : Int) : runF P G 12 [vec a, dot (x, y)] [] [Orc.call [] (AOut.ret (AV.tup [vec (joinE a [(x, y)]), int (check2E a [(x, y)])])) []] =
    some (AOut.ret (AV.tup [AV.sl 2 false (encs (joinE a [(x, y)])), int (check2E a [(x, y)])]), [], [CallC P G 21 [AV.sl 2 false (encs a), AV.sl 2 true [[int x, int y]]] [] (AOut.ret (AV.tup [AV.sl 2 false (encs (joinE a [(x, y)])), int (check2E a [(x, y)])])) []]) := by kernel_rfl

theorem with_w (a : List D) (x y : Int) (ha : a.length ≤ 1000000000) (h : True) : CallC P G 12 [vec a, dot (x, y)] [] (AOut.ret (AV.tup [vec (joinE a [(x, y)]), int (check2E a [(x, y)])])) [] := by
  have _ := h
  exact callC_of_run _ (with_w_p1 a x y) ⟨(CallC.args' (@Go.Vec.join_c (a) ([(x, y)]) (by omega) (by simp)) ⟨Sub.refl _, Sub.loose _ _ _, trivial⟩), trivial⟩


theorem with_c (a : List D) (x y : Int) (ha : a.length ≤ 1000000000) : CallC P G 12 [vec a, dot (x, y)] [] (.ret (.tup [vec (joinE a [(x, y)]), int (check2E a [(x, y)])])) [] := with_w a x y ha trivial

/-! The reference's -/
theorem okN_mem {v : List D} : ∀ n k, okN v n k = true → ∀ j, k ≤ j → j < k + n → ∀ x, v[j]? = some x → isDotB x = true
  | 0, k, _, j, h1, h2 => absurd h2 (by omega)
  | n + 1, k, h, j, h1, h2 => fun x hx => by
    simp only [okN, Bool.and_eq_true] at h
    by_cases e : j = k
    · subst e
      have := h.1
      simp only [okAt, hx, Bool.and_eq_true] at this
      exact this.1
    · exact okN_mem n (k + 1) h.2 j (by omega) (by omega) x hx
theorem ok_dots {v : List D} (h : okB v = true) : ∀ x ∈ v, isDotB x = true := fun x hx => by
  obtain ⟨j, hj⟩ := List.mem_iff_getElem?.1 hx
  exact okN_mem _ _ h j (Nat.zero_le _) (by have := (List.getElem?_eq_some_iff.1 hj).1; omega) x hj
theorem checkE_ok {v : List D} : checkE v = 0 ↔ okB v = true := by
  unfold checkE
  by_cases h : okB v = true
  · rw [if_pos h]; simp [h]
  · rw [if_neg h]; simp [h]
theorem check2E_ok {a b : List D} : check2E a b = 0 ↔ okB a = true ∧ okB b = true := by
  unfold check2E
  by_cases h : checkE a = 0
  · rw [if_pos h]; simp [checkE_ok.1 h, checkE_ok]
  · rw [if_neg h]
    exact ⟨fun h' => absurd h' h, fun h' => absurd (checkE_ok.2 h'.1) h⟩
theorem ok_lt {v : List D} (h : okB v = true) : ∀ y ∈ v, y.1 < 512 := fun y hy => by
  have := ok_dots h y hy
  simp only [isDotB, Bool.and_eq_true, decide_eq_true_eq] at this
  exact this.1.1.2
def rjoinE (a b : List D) : List D := if check2E a b = 0 then joinV a b else []
def rmeetE (a b : List D) : List D := if check2E a b = 0 then meetV a b else []
theorem rjoin_c (a b : List D) (ha : a.length ≤ 1000000000) (hb : b.length ≤ 1000000000) : CallC P G 22 [vec a, vec b] [] (.ret (.tup [vec (rjoinE a b), int (check2E a b)])) [] := by
  unfold rjoinE
  by_cases h : check2E a b = 0
  · rw [if_pos h, h]
    exact rjoin_f a b ha hb (ok_lt (check2E_ok.1 h).2) (by have := devs_len a b; omega) h ⟨fun h => h.symm, fun _ => trivial⟩
  · rw [if_neg h]; exact rjoin_e a b ha hb h trivial
theorem rmeet_c (a b : List D) (ha : a.length ≤ 1000000000) (hb : b.length ≤ 1000000000) : CallC P G 24 [vec a, vec b] [] (.ret (.tup [vec (rmeetE a b), int (check2E a b)])) [] := by
  unfold rmeetE
  by_cases h : check2E a b = 0
  · rw [if_pos h, h]
    exact rmeet_f a b ha hb (ok_lt (check2E_ok.1 h).2) (by have := devs_len a b; omega) h ⟨fun h => h.symm, fun _ => trivial⟩
  · rw [if_neg h]; exact rmeet_e a b ha hb h trivial

theorem rwith_w_p1 (a : List D) (x : Int) (y : Int) : runF P G 13 [vec a, dot (x, y)] [] [Orc.call [] (AOut.ret (int (checkE a))) [], Orc.br false, Orc.call [] (AOut.ret (Am.bool (isDotB (x, y)))) [], Orc.br false, Orc.call [] (AOut.ret (AV.tup [vec (rjoinE a [(x, y)]), int (check2E a [(x, y)])])) []] =
    some (AOut.ret (AV.tup [AV.sl 2 false (encs (rjoinE a [(x, y)])), int (check2E a [(x, y)])]), [], [CallC P G 15 [AV.sl 2 false (encs a)] [] (AOut.ret (int (checkE a))) [], (checkE a != 0) = false, CallC P G 27 [AV.agg [int x, int y]] [] (AOut.ret (Am.bool (isDotB (x, y)))) [], (!isDotB (x, y)) = false, CallC P G 22 [AV.sl 2 false (encs a), AV.sl 2 true [[int x, int y]]] [] (AOut.ret (AV.tup [AV.sl 2 false (encs (rjoinE a [(x, y)])), int (check2E a [(x, y)])])) []]) := by kernel_rfl

theorem rwith_w_p2 (a : List D) (x : Int) (y : Int) : runF P G 13 [vec a, dot (x, y)] [] [Orc.call [] (AOut.ret (int (checkE a))) [], Orc.br false, Orc.call [] (AOut.ret (Am.bool (isDotB (x, y)))) [], Orc.br true] =
    some (AOut.ret (AV.tup [nilS, int 120]), [], [CallC P G 15 [AV.sl 2 false (encs a)] [] (AOut.ret (int (checkE a))) [], (checkE a != 0) = false, CallC P G 27 [AV.agg [int x, int y]] [] (AOut.ret (Am.bool (isDotB (x, y)))) [], (!isDotB (x, y)) = true]) := by kernel_rfl

theorem rwith_w_p3 (a : List D) (x : Int) (y : Int) : runF P G 13 [vec a, dot (x, y)] [] [Orc.call [] (AOut.ret (int (checkE a))) [], Orc.br true] =
    some (AOut.ret (AV.tup [nilS, int (checkE a)]), [], [CallC P G 15 [AV.sl 2 false (encs a)] [] (AOut.ret (int (checkE a))) [], (checkE a != 0) = true]) := by kernel_rfl

theorem rwith_w (a : List D) (x y : Int) (ha : a.length ≤ 1000000000) (h : (((checkE a = (0 : Int)) → ((((isDotB (x, y)) = true) → True) ∧ (((isDotB (x, y)) = false) → ([] = rjoinE a [(x, y)]) ∧ ((120 : Int) = check2E a [(x, y)])))) ∧ ((¬checkE a = (0 : Int)) → ([] = rjoinE a [(x, y)]) ∧ ((checkE a : Int) = check2E a [(x, y)])))) : CallC P G 13 [vec a, dot (x, y)] [] (AOut.ret (AV.tup [vec (rjoinE a [(x, y)]), int (check2E a [(x, y)])])) [] := by
  by_cases c1 : (checkE a = (0 : Int))
  · have h := h.1 c1
    rcases Bool.eq_false_or_eq_true ((isDotB (x, y))) with c2 | c2
    · have h := h.1 c2
      have _ := h
      exact callC_of_run _ (rwith_w_p1 a x y) ⟨(@Go.Vec.rcheck_c (a) (by omega)), (congrArg Bool.not (beq_iff_eq.2 c1)), (@Go.Vec.refDot_c (x) (y)), (congrArg Bool.not (c2)), (CallC.args' (@Go.Vec.rjoin_c (a) ([(x, y)]) (by omega) (by simp)) ⟨Sub.refl _, Sub.loose _ _ _, trivial⟩), trivial⟩
    · have h := h.2 c2
      obtain ⟨e1, e2⟩ := h
      exact CallC.out (callC_of_run _ (rwith_w_p2 a x y) ⟨(@Go.Vec.rcheck_c (a) (by omega)), (congrArg Bool.not (beq_iff_eq.2 c1)), (@Go.Vec.refDot_c (x) (y)), (congrArg Bool.not (c2)), trivial⟩) (Sub.tups ⟨(Sub.nil_eq (congrArg (List.map enc) e1)), (Sub.int_eq e2), trivial⟩)
  · have h := h.2 c1
    obtain ⟨e1, e2⟩ := h
    exact CallC.out (callC_of_run _ (rwith_w_p3 a x y) ⟨(@Go.Vec.rcheck_c (a) (by omega)), (congrArg Bool.not (beq_eq_false_iff_ne.2 c1)), trivial⟩) (Sub.tups ⟨(Sub.nil_eq (congrArg (List.map enc) e1)), (Sub.int_eq e2), trivial⟩)


/-! Compare -/
noncomputable def crng : AObj := .rng .ready none (slots 45 [(7, .ptr 3 0), (8, .ptr 4 0)]) #[19] (asgAt P 25 0) (rbodyAt P 25 0)
noncomputable def cq (l m : Bool) (A B : List D) : List AObj := [crng, .box [vec A], .box [vec B], .box [bool l], .box [bool m]]

theorem cy_w_p1 (A : List D) (B : List D) (l : Bool) (m : Bool) (d : Int) (x : Int) (y : Int) (r : Option Nat) : runY P G r 0 [AV.agg [int d, int x, int y]] (cq l m A B ++ [AObj.box [int d, int x, int y]]) [Orc.br true, Orc.br true] =
    some (true, [crng, AObj.box [AV.sl 2 false (encs A)], AObj.box [AV.sl 2 false (encs B)], AObj.box [Am.bool true], AObj.box [Am.bool true], AObj.box [int d, int x, int y]], [l = true, m = true]) := by kernel_rfl

theorem cy_w_p2 (A : List D) (B : List D) (l : Bool) (m : Bool) (d : Int) (x : Int) (y : Int) (r : Option Nat) : runY P G r 0 [AV.agg [int d, int x, int y]] (cq l m A B ++ [AObj.box [int d, int x, int y]]) [Orc.br true, Orc.br false] =
    some (true, [crng, AObj.box [AV.sl 2 false (encs A)], AObj.box [AV.sl 2 false (encs B)], AObj.box [Am.bool true], AObj.box [Am.bool (decide (x > y))], AObj.box [int d, int x, int y]], [l = true, m = false]) := by kernel_rfl

theorem cy_w_p3 (A : List D) (B : List D) (l : Bool) (m : Bool) (d : Int) (x : Int) (y : Int) (r : Option Nat) : runY P G r 0 [AV.agg [int d, int x, int y]] (cq l m A B ++ [AObj.box [int d, int x, int y]]) [Orc.br false, Orc.br true] =
    some (true, [crng, AObj.box [AV.sl 2 false (encs A)], AObj.box [AV.sl 2 false (encs B)], AObj.box [Am.bool (decide (x < y))], AObj.box [Am.bool true], AObj.box [int d, int x, int y]], [l = false, m = true]) := by kernel_rfl

theorem cy_w_p4 (A : List D) (B : List D) (l : Bool) (m : Bool) (d : Int) (x : Int) (y : Int) (r : Option Nat) : runY P G r 0 [AV.agg [int d, int x, int y]] (cq l m A B ++ [AObj.box [int d, int x, int y]]) [Orc.br false, Orc.br false] =
    some (true, [crng, AObj.box [AV.sl 2 false (encs A)], AObj.box [AV.sl 2 false (encs B)], AObj.box [Am.bool (decide (x < y))], AObj.box [Am.bool (decide (x > y))], AObj.box [int d, int x, int y]], [l = false, m = false]) := by kernel_rfl

theorem cy_w (A B : List D) (l m : Bool) (d x y : Int) (b : Bool) (H' : List AObj) (h : ((((l) = true) → ((((m) = true) → (true = b) ∧ ([crng, AObj.box [AV.sl 2 false (encs A)], AObj.box [AV.sl 2 false (encs B)], AObj.box [Am.bool true], AObj.box [Am.bool true], AObj.box [int d, int x, int y]] = H')) ∧ (((m) = false) → (true = b) ∧ ([crng, AObj.box [AV.sl 2 false (encs A)], AObj.box [AV.sl 2 false (encs B)], AObj.box [Am.bool true], AObj.box [Am.bool (decide (x > y))], AObj.box [int d, int x, int y]] = H')))) ∧ (((l) = false) → ((((m) = true) → (true = b) ∧ ([crng, AObj.box [AV.sl 2 false (encs A)], AObj.box [AV.sl 2 false (encs B)], AObj.box [Am.bool (decide (x < y))], AObj.box [Am.bool true], AObj.box [int d, int x, int y]] = H')) ∧ (((m) = false) → (true = b) ∧ ([crng, AObj.box [AV.sl 2 false (encs A)], AObj.box [AV.sl 2 false (encs B)], AObj.box [Am.bool (decide (x < y))], AObj.box [Am.bool (decide (x > y))], AObj.box [int d, int x, int y]] = H')))))) : YieldC P G 0 [AV.agg [int d, int x, int y]] (cq l m A B ++ [AObj.box [int d, int x, int y]]) b H' := by
  rcases Bool.eq_false_or_eq_true ((l)) with c1 | c1
  · have h := h.1 c1
    rcases Bool.eq_false_or_eq_true ((m)) with c2 | c2
    · have h := h.1 c2
      obtain ⟨e1, e2⟩ := h
      exact YieldC.to (yieldC_of_run _ (fun r => (cy_w_p1 A B l m d x y) r) (fun _ => ⟨(c1), (c2), trivial⟩)) e1 e2
    · have h := h.2 c2
      obtain ⟨e1, e2⟩ := h
      exact YieldC.to (yieldC_of_run _ (fun r => (cy_w_p2 A B l m d x y) r) (fun _ => ⟨(c1), (c2), trivial⟩)) e1 e2
  · have h := h.2 c1
    rcases Bool.eq_false_or_eq_true ((m)) with c3 | c3
    · have h := h.1 c3
      obtain ⟨e1, e2⟩ := h
      exact YieldC.to (yieldC_of_run _ (fun r => (cy_w_p3 A B l m d x y) r) (fun _ => ⟨(c1), (c3), trivial⟩)) e1 e2
    · have h := h.2 c3
      obtain ⟨e1, e2⟩ := h
      exact YieldC.to (yieldC_of_run _ (fun r => (cy_w_p4 A B l m d x y) r) (fun _ => ⟨(c1), (c3), trivial⟩)) e1 e2


theorem cy_c (A B : List D) (l m : Bool) (d x y : Int) : YieldC P G 0 [.agg [int d, int x, int y]] (cq l m A B ++ [.box [int d, int x, int y]]) true (cq (l || decide (x < y)) (m || decide (x > y)) A B ++ [.box [int d, int x, int y]]) :=
  cy_w A B l m d x y true _ ⟨fun h => ⟨fun h' => ⟨rfl, by subst h h'; rfl⟩, fun h' => ⟨rfl, by subst h h'; rfl⟩⟩, fun h => ⟨fun h' => ⟨rfl, by subst h h'; rfl⟩, fun h' => ⟨rfl, by subst h h'; rfl⟩⟩⟩

noncomputable def clSt (l m : Bool) (A B : List D) : St := { env := slots 91 [(0, .yl 0), (1, .ptr 1 0), (2, .ptr 2 0)], H := cq l m A B }

theorem cl_w_p1 (A : List D) (B : List D) (l : Bool) (m : Bool) (x3 : D) : loopStep P G none 5 (loopAt P 37 0) (clSt l m A B) [Orc.val (some 6) (int (↑(List.length A) : Int)), Orc.br true, Orc.br true, Orc.val (some 32) (int (↑(List.length B) : Int)), Orc.br true, Orc.br true, Orc.elem (enc x3), Orc.elem (enc x3), Orc.val (some 60) (AV.sl 2 false (encs (List.drop 1 A))), Orc.call [] (AOut.ret (Am.bool true)) (cq (l || decide (Prod.snd x3 < (0 : Int))) (m || decide (Prod.snd x3 > (0 : Int))) (List.drop 1 A) B ++ [AObj.box [int (Prod.fst x3), int (Prod.snd x3), int 0]]), Orc.br false] (others 91 [0, 1, 2]) 5 =
    some ({ env := slots 91 [(0, AV.yl 0), (1, AV.ptr 1 0), (2, AV.ptr 2 0)], H := [crng, AObj.box [AV.sl 2 false (encs (List.drop 1 A))], AObj.box [AV.sl 2 false (encs B)], AObj.box [Am.bool (l || decide (Prod.snd x3 < (0 : Int)))], AObj.box [Am.bool (m || decide (Prod.snd x3 > (0 : Int)))]] }, [Am.Sub (int (↑(List.length (encs A)) : Int)) (int (↑(List.length A) : Int)), decide ((↑(List.length A) : Int) > (0 : Int)) = true, true = true, Am.Sub (int (↑(List.length (encs B)) : Int)) (int (↑(List.length B) : Int)), ((↑(List.length B) : Int) == 0) = true, true = true, (0 : Int) ≤ (0 : Int) ∧ (encs A)[Int.toNat 0]? = some (enc x3), (0 : Int) ≤ (0 : Int) ∧ (encs A)[Int.toNat 0]? = some (enc x3), Am.Sub (AV.sl 2 false (List.drop 1 (List.take (Int.toNat (↑(List.length (encs A)) : Int)) (encs A)))) (AV.sl 2 false (encs (List.drop 1 A))), (0 : Int) ≤ (1 : Int) ∧ (1 : Int) ≤ (↑(List.length (encs A)) : Int) ∧ (↑(List.length (encs A)) : Int) ≤ (↑(List.length (encs A)) : Int), YieldC P G 0 [AV.agg [int (Prod.fst x3), int (Prod.snd x3), int 0]] [crng, AObj.box [AV.sl 2 false (encs (List.drop 1 A))], AObj.box [AV.sl 2 false (encs B)], AObj.box [Am.bool l], AObj.box [Am.bool m], AObj.box [int (Prod.fst x3), int (Prod.snd x3), int 0]] true [crng, AObj.box [AV.sl 2 false (encs (List.drop 1 A))], AObj.box [AV.sl 2 false (encs B)], AObj.box [Am.bool (l || decide (Prod.snd x3 < (0 : Int)))], AObj.box [Am.bool (m || decide (Prod.snd x3 > (0 : Int)))], AObj.box [int (Prod.fst x3), int (Prod.snd x3), int 0]], false = false]) := by kernel_rfl

theorem cl_w_p2 (A : List D) (B : List D) (l : Bool) (m : Bool) (x5 : D) (x7 : D) : loopStep P G none 5 (loopAt P 37 0) (clSt l m A B) [Orc.val (some 6) (int (↑(List.length A) : Int)), Orc.br true, Orc.br true, Orc.val (some 32) (int (↑(List.length B) : Int)), Orc.br false, Orc.val (some 36) (int (↑(List.length A) : Int)), Orc.br true, Orc.elem (enc x5), Orc.elem (enc x7), Orc.br true, Orc.elem (enc x5), Orc.elem (enc x5), Orc.val (some 60) (AV.sl 2 false (encs (List.drop 1 A))), Orc.call [] (AOut.ret (Am.bool true)) (cq (l || decide (Prod.snd x5 < (0 : Int))) (m || decide (Prod.snd x5 > (0 : Int))) (List.drop 1 A) B ++ [AObj.box [int (Prod.fst x5), int (Prod.snd x5), int 0]]), Orc.br false] (others 91 [0, 1, 2]) 5 =
    some ({ env := slots 91 [(0, AV.yl 0), (1, AV.ptr 1 0), (2, AV.ptr 2 0)], H := [crng, AObj.box [AV.sl 2 false (encs (List.drop 1 A))], AObj.box [AV.sl 2 false (encs B)], AObj.box [Am.bool (l || decide (Prod.snd x5 < (0 : Int)))], AObj.box [Am.bool (m || decide (Prod.snd x5 > (0 : Int)))]] }, [Am.Sub (int (↑(List.length (encs A)) : Int)) (int (↑(List.length A) : Int)), decide ((↑(List.length A) : Int) > (0 : Int)) = true, true = true, Am.Sub (int (↑(List.length (encs B)) : Int)) (int (↑(List.length B) : Int)), ((↑(List.length B) : Int) == 0) = false, Am.Sub (int (↑(List.length (encs A)) : Int)) (int (↑(List.length A) : Int)), decide ((↑(List.length A) : Int) > (0 : Int)) = true, (0 : Int) ≤ (0 : Int) ∧ (encs A)[Int.toNat 0]? = some (enc x5), (0 : Int) ≤ (0 : Int) ∧ (encs B)[Int.toNat 0]? = some (enc x7), decide (Prod.fst x5 < Prod.fst x7) = true, (0 : Int) ≤ (0 : Int) ∧ (encs A)[Int.toNat 0]? = some (enc x5), (0 : Int) ≤ (0 : Int) ∧ (encs A)[Int.toNat 0]? = some (enc x5), Am.Sub (AV.sl 2 false (List.drop 1 (List.take (Int.toNat (↑(List.length (encs A)) : Int)) (encs A)))) (AV.sl 2 false (encs (List.drop 1 A))), (0 : Int) ≤ (1 : Int) ∧ (1 : Int) ≤ (↑(List.length (encs A)) : Int) ∧ (↑(List.length (encs A)) : Int) ≤ (↑(List.length (encs A)) : Int), YieldC P G 0 [AV.agg [int (Prod.fst x5), int (Prod.snd x5), int 0]] [crng, AObj.box [AV.sl 2 false (encs (List.drop 1 A))], AObj.box [AV.sl 2 false (encs B)], AObj.box [Am.bool l], AObj.box [Am.bool m], AObj.box [int (Prod.fst x5), int (Prod.snd x5), int 0]] true [crng, AObj.box [AV.sl 2 false (encs (List.drop 1 A))], AObj.box [AV.sl 2 false (encs B)], AObj.box [Am.bool (l || decide (Prod.snd x5 < (0 : Int)))], AObj.box [Am.bool (m || decide (Prod.snd x5 > (0 : Int)))], AObj.box [int (Prod.fst x5), int (Prod.snd x5), int 0]], false = false]) := by kernel_rfl

theorem cl_w_p3 (A : List D) (B : List D) (l : Bool) (m : Bool) (x5 : D) (x7 : D) : loopStep P G none 5 (loopAt P 37 0) (clSt l m A B) [Orc.val (some 6) (int (↑(List.length A) : Int)), Orc.br true, Orc.br true, Orc.val (some 32) (int (↑(List.length B) : Int)), Orc.br false, Orc.val (some 36) (int (↑(List.length A) : Int)), Orc.br true, Orc.elem (enc x5), Orc.elem (enc x7), Orc.br false, Orc.val (some 63) (int (↑(List.length A) : Int)), Orc.br false, Orc.elem (enc x7), Orc.elem (enc x5), Orc.br true, Orc.elem (enc x7), Orc.elem (enc x7), Orc.val (some 86) (AV.sl 2 false (encs (List.drop 1 B))), Orc.call [] (AOut.ret (Am.bool true)) (cq (l || decide ((0 : Int) < Prod.snd x7)) (m || decide ((0 : Int) > Prod.snd x7)) A (List.drop 1 B) ++ [AObj.box [int (Prod.fst x7), int 0, int (Prod.snd x7)]]), Orc.br false] (others 91 [0, 1, 2]) 5 =
    some ({ env := slots 91 [(0, AV.yl 0), (1, AV.ptr 1 0), (2, AV.ptr 2 0)], H := [crng, AObj.box [AV.sl 2 false (encs A)], AObj.box [AV.sl 2 false (encs (List.drop 1 B))], AObj.box [Am.bool (l || decide ((0 : Int) < Prod.snd x7))], AObj.box [Am.bool (m || decide ((0 : Int) > Prod.snd x7))]] }, [Am.Sub (int (↑(List.length (encs A)) : Int)) (int (↑(List.length A) : Int)), decide ((↑(List.length A) : Int) > (0 : Int)) = true, true = true, Am.Sub (int (↑(List.length (encs B)) : Int)) (int (↑(List.length B) : Int)), ((↑(List.length B) : Int) == 0) = false, Am.Sub (int (↑(List.length (encs A)) : Int)) (int (↑(List.length A) : Int)), decide ((↑(List.length A) : Int) > (0 : Int)) = true, (0 : Int) ≤ (0 : Int) ∧ (encs A)[Int.toNat 0]? = some (enc x5), (0 : Int) ≤ (0 : Int) ∧ (encs B)[Int.toNat 0]? = some (enc x7), decide (Prod.fst x5 < Prod.fst x7) = false, Am.Sub (int (↑(List.length (encs A)) : Int)) (int (↑(List.length A) : Int)), ((↑(List.length A) : Int) == 0) = false, (0 : Int) ≤ (0 : Int) ∧ (encs B)[Int.toNat 0]? = some (enc x7), (0 : Int) ≤ (0 : Int) ∧ (encs A)[Int.toNat 0]? = some (enc x5), decide (Prod.fst x7 < Prod.fst x5) = true, (0 : Int) ≤ (0 : Int) ∧ (encs B)[Int.toNat 0]? = some (enc x7), (0 : Int) ≤ (0 : Int) ∧ (encs B)[Int.toNat 0]? = some (enc x7), Am.Sub (AV.sl 2 false (List.drop 1 (List.take (Int.toNat (↑(List.length (encs B)) : Int)) (encs B)))) (AV.sl 2 false (encs (List.drop 1 B))), (0 : Int) ≤ (1 : Int) ∧ (1 : Int) ≤ (↑(List.length (encs B)) : Int) ∧ (↑(List.length (encs B)) : Int) ≤ (↑(List.length (encs B)) : Int), YieldC P G 0 [AV.agg [int (Prod.fst x7), int 0, int (Prod.snd x7)]] [crng, AObj.box [AV.sl 2 false (encs A)], AObj.box [AV.sl 2 false (encs (List.drop 1 B))], AObj.box [Am.bool l], AObj.box [Am.bool m], AObj.box [int (Prod.fst x7), int 0, int (Prod.snd x7)]] true [crng, AObj.box [AV.sl 2 false (encs A)], AObj.box [AV.sl 2 false (encs (List.drop 1 B))], AObj.box [Am.bool (l || decide ((0 : Int) < Prod.snd x7))], AObj.box [Am.bool (m || decide ((0 : Int) > Prod.snd x7))], AObj.box [int (Prod.fst x7), int 0, int (Prod.snd x7)]], false = false]) := by kernel_rfl

theorem cl_w_p4 (A : List D) (B : List D) (l : Bool) (m : Bool) (x5 : D) (x7 : D) : loopStep P G none 5 (loopAt P 37 0) (clSt l m A B) [Orc.val (some 6) (int (↑(List.length A) : Int)), Orc.br true, Orc.br true, Orc.val (some 32) (int (↑(List.length B) : Int)), Orc.br false, Orc.val (some 36) (int (↑(List.length A) : Int)), Orc.br true, Orc.elem (enc x5), Orc.elem (enc x7), Orc.br false, Orc.val (some 63) (int (↑(List.length A) : Int)), Orc.br false, Orc.elem (enc x7), Orc.elem (enc x5), Orc.br false, Orc.elem (enc x5), Orc.elem (enc x5), Orc.elem (enc x7), Orc.val (some 27) (AV.sl 2 false (encs (List.drop 1 A))), Orc.val (some 29) (AV.sl 2 false (encs (List.drop 1 B))), Orc.call [] (AOut.ret (Am.bool true)) (cq (l || decide (Prod.snd x5 < Prod.snd x7)) (m || decide (Prod.snd x5 > Prod.snd x7)) (List.drop 1 A) (List.drop 1 B) ++ [AObj.box [int (Prod.fst x5), int (Prod.snd x5), int (Prod.snd x7)]]), Orc.br false] (others 91 [0, 1, 2]) 5 =
    some ({ env := slots 91 [(0, AV.yl 0), (1, AV.ptr 1 0), (2, AV.ptr 2 0)], H := [crng, AObj.box [AV.sl 2 false (encs (List.drop 1 A))], AObj.box [AV.sl 2 false (encs (List.drop 1 B))], AObj.box [Am.bool (l || decide (Prod.snd x5 < Prod.snd x7))], AObj.box [Am.bool (m || decide (Prod.snd x5 > Prod.snd x7))]] }, [Am.Sub (int (↑(List.length (encs A)) : Int)) (int (↑(List.length A) : Int)), decide ((↑(List.length A) : Int) > (0 : Int)) = true, true = true, Am.Sub (int (↑(List.length (encs B)) : Int)) (int (↑(List.length B) : Int)), ((↑(List.length B) : Int) == 0) = false, Am.Sub (int (↑(List.length (encs A)) : Int)) (int (↑(List.length A) : Int)), decide ((↑(List.length A) : Int) > (0 : Int)) = true, (0 : Int) ≤ (0 : Int) ∧ (encs A)[Int.toNat 0]? = some (enc x5), (0 : Int) ≤ (0 : Int) ∧ (encs B)[Int.toNat 0]? = some (enc x7), decide (Prod.fst x5 < Prod.fst x7) = false, Am.Sub (int (↑(List.length (encs A)) : Int)) (int (↑(List.length A) : Int)), ((↑(List.length A) : Int) == 0) = false, (0 : Int) ≤ (0 : Int) ∧ (encs B)[Int.toNat 0]? = some (enc x7), (0 : Int) ≤ (0 : Int) ∧ (encs A)[Int.toNat 0]? = some (enc x5), decide (Prod.fst x7 < Prod.fst x5) = false, (0 : Int) ≤ (0 : Int) ∧ (encs A)[Int.toNat 0]? = some (enc x5), (0 : Int) ≤ (0 : Int) ∧ (encs A)[Int.toNat 0]? = some (enc x5), (0 : Int) ≤ (0 : Int) ∧ (encs B)[Int.toNat 0]? = some (enc x7), Am.Sub (AV.sl 2 false (List.drop 1 (List.take (Int.toNat (↑(List.length (encs A)) : Int)) (encs A)))) (AV.sl 2 false (encs (List.drop 1 A))), (0 : Int) ≤ (1 : Int) ∧ (1 : Int) ≤ (↑(List.length (encs A)) : Int) ∧ (↑(List.length (encs A)) : Int) ≤ (↑(List.length (encs A)) : Int), Am.Sub (AV.sl 2 false (List.drop 1 (List.take (Int.toNat (↑(List.length (encs B)) : Int)) (encs B)))) (AV.sl 2 false (encs (List.drop 1 B))), (0 : Int) ≤ (1 : Int) ∧ (1 : Int) ≤ (↑(List.length (encs B)) : Int) ∧ (↑(List.length (encs B)) : Int) ≤ (↑(List.length (encs B)) : Int), YieldC P G 0 [AV.agg [int (Prod.fst x5), int (Prod.snd x5), int (Prod.snd x7)]] [crng, AObj.box [AV.sl 2 false (encs (List.drop 1 A))], AObj.box [AV.sl 2 false (encs (List.drop 1 B))], AObj.box [Am.bool l], AObj.box [Am.bool m], AObj.box [int (Prod.fst x5), int (Prod.snd x5), int (Prod.snd x7)]] true [crng, AObj.box [AV.sl 2 false (encs (List.drop 1 A))], AObj.box [AV.sl 2 false (encs (List.drop 1 B))], AObj.box [Am.bool (l || decide (Prod.snd x5 < Prod.snd x7))], AObj.box [Am.bool (m || decide (Prod.snd x5 > Prod.snd x7))], AObj.box [int (Prod.fst x5), int (Prod.snd x5), int (Prod.snd x7)]], false = false]) := by kernel_rfl

theorem cl_w_p5 (A : List D) (B : List D) (l : Bool) (m : Bool) (x15 : D) : loopStep P G none 5 (loopAt P 37 0) (clSt l m A B) [Orc.val (some 6) (int (↑(List.length A) : Int)), Orc.br false, Orc.val (some 10) (int (↑(List.length B) : Int)), Orc.br true, Orc.val (some 32) (int (↑(List.length B) : Int)), Orc.br false, Orc.val (some 36) (int (↑(List.length A) : Int)), Orc.br false, Orc.br false, Orc.val (some 63) (int (↑(List.length A) : Int)), Orc.br true, Orc.br true, Orc.elem (enc x15), Orc.elem (enc x15), Orc.val (some 86) (AV.sl 2 false (encs (List.drop 1 B))), Orc.call [] (AOut.ret (Am.bool true)) (cq (l || decide ((0 : Int) < Prod.snd x15)) (m || decide ((0 : Int) > Prod.snd x15)) A (List.drop 1 B) ++ [AObj.box [int (Prod.fst x15), int 0, int (Prod.snd x15)]]), Orc.br false] (others 91 [0, 1, 2]) 5 =
    some ({ env := slots 91 [(0, AV.yl 0), (1, AV.ptr 1 0), (2, AV.ptr 2 0)], H := [crng, AObj.box [AV.sl 2 false (encs A)], AObj.box [AV.sl 2 false (encs (List.drop 1 B))], AObj.box [Am.bool (l || decide ((0 : Int) < Prod.snd x15))], AObj.box [Am.bool (m || decide ((0 : Int) > Prod.snd x15))]] }, [Am.Sub (int (↑(List.length (encs A)) : Int)) (int (↑(List.length A) : Int)), decide ((↑(List.length A) : Int) > (0 : Int)) = false, Am.Sub (int (↑(List.length (encs B)) : Int)) (int (↑(List.length B) : Int)), decide ((↑(List.length B) : Int) > (0 : Int)) = true, Am.Sub (int (↑(List.length (encs B)) : Int)) (int (↑(List.length B) : Int)), ((↑(List.length B) : Int) == 0) = false, Am.Sub (int (↑(List.length (encs A)) : Int)) (int (↑(List.length A) : Int)), decide ((↑(List.length A) : Int) > (0 : Int)) = false, false = false, Am.Sub (int (↑(List.length (encs A)) : Int)) (int (↑(List.length A) : Int)), ((↑(List.length A) : Int) == 0) = true, true = true, (0 : Int) ≤ (0 : Int) ∧ (encs B)[Int.toNat 0]? = some (enc x15), (0 : Int) ≤ (0 : Int) ∧ (encs B)[Int.toNat 0]? = some (enc x15), Am.Sub (AV.sl 2 false (List.drop 1 (List.take (Int.toNat (↑(List.length (encs B)) : Int)) (encs B)))) (AV.sl 2 false (encs (List.drop 1 B))), (0 : Int) ≤ (1 : Int) ∧ (1 : Int) ≤ (↑(List.length (encs B)) : Int) ∧ (↑(List.length (encs B)) : Int) ≤ (↑(List.length (encs B)) : Int), YieldC P G 0 [AV.agg [int (Prod.fst x15), int 0, int (Prod.snd x15)]] [crng, AObj.box [AV.sl 2 false (encs A)], AObj.box [AV.sl 2 false (encs (List.drop 1 B))], AObj.box [Am.bool l], AObj.box [Am.bool m], AObj.box [int (Prod.fst x15), int 0, int (Prod.snd x15)]] true [crng, AObj.box [AV.sl 2 false (encs A)], AObj.box [AV.sl 2 false (encs (List.drop 1 B))], AObj.box [Am.bool (l || decide ((0 : Int) < Prod.snd x15))], AObj.box [Am.bool (m || decide ((0 : Int) > Prod.snd x15))], AObj.box [int (Prod.fst x15), int 0, int (Prod.snd x15)]], false = false]) := by kernel_rfl

theorem cl_w_p6 (A : List D) (B : List D) (l : Bool) (m : Bool) : loopExit P G none 5 (loopAt P 37 0) (clSt l m A B) [Orc.val (some 6) (int (↑(List.length A) : Int)), Orc.br false, Orc.val (some 10) (int (↑(List.length B) : Int)), Orc.br false] (others 91 []) 5 =
    some (AEx.exit 0, { env := slots 91 [], H := [crng, AObj.box [AV.sl 2 false (encs A)], AObj.box [AV.sl 2 false (encs B)], AObj.box [Am.bool l], AObj.box [Am.bool m]] }, [Am.Sub (int (↑(List.length (encs A)) : Int)) (int (↑(List.length A) : Int)), decide ((↑(List.length A) : Int) > (0 : Int)) = false, Am.Sub (int (↑(List.length (encs B)) : Int)) (int (↑(List.length B) : Int)), decide ((↑(List.length B) : Int) > (0 : Int)) = false]) := by kernel_rfl

theorem cl_w (A B : List D) (l m : Bool) (hA : A.length ≤ 1000000000) (hB : B.length ≤ 1000000000) (ex : AEx) (s' : St) (h : ((((↑(List.length A) : Int) > (0 : Int)) → ((((↑(List.length B) : Int) = (0 : Int)) → (∃ x3 : D, (A[0]? = some x3) ∧ RunL P G none 5 (loopAt P 37 0) { env := slots 91 [(0, AV.yl 0), (1, AV.ptr 1 0), (2, AV.ptr 2 0)], H := [crng, AObj.box [AV.sl 2 false (encs (List.drop 1 A))], AObj.box [AV.sl 2 false (encs B)], AObj.box [Am.bool (l || decide (Prod.snd x3 < (0 : Int)))], AObj.box [Am.bool (m || decide (Prod.snd x3 > (0 : Int)))]] } ex s')) ∧ ((¬(↑(List.length B) : Int) = (0 : Int)) → (∃ x5 : D, (A[0]? = some x5) ∧ (∃ x7 : D, (B[0]? = some x7) ∧ (((Prod.fst x5 < Prod.fst x7) → RunL P G none 5 (loopAt P 37 0) { env := slots 91 [(0, AV.yl 0), (1, AV.ptr 1 0), (2, AV.ptr 2 0)], H := [crng, AObj.box [AV.sl 2 false (encs (List.drop 1 A))], AObj.box [AV.sl 2 false (encs B)], AObj.box [Am.bool (l || decide (Prod.snd x5 < (0 : Int)))], AObj.box [Am.bool (m || decide (Prod.snd x5 > (0 : Int)))]] } ex s') ∧ ((¬Prod.fst x5 < Prod.fst x7) → (((Prod.fst x7 < Prod.fst x5) → RunL P G none 5 (loopAt P 37 0) { env := slots 91 [(0, AV.yl 0), (1, AV.ptr 1 0), (2, AV.ptr 2 0)], H := [crng, AObj.box [AV.sl 2 false (encs A)], AObj.box [AV.sl 2 false (encs (List.drop 1 B))], AObj.box [Am.bool (l || decide ((0 : Int) < Prod.snd x7))], AObj.box [Am.bool (m || decide ((0 : Int) > Prod.snd x7))]] } ex s') ∧ ((¬Prod.fst x7 < Prod.fst x5) → RunL P G none 5 (loopAt P 37 0) { env := slots 91 [(0, AV.yl 0), (1, AV.ptr 1 0), (2, AV.ptr 2 0)], H := [crng, AObj.box [AV.sl 2 false (encs (List.drop 1 A))], AObj.box [AV.sl 2 false (encs (List.drop 1 B))], AObj.box [Am.bool (l || decide (Prod.snd x5 < Prod.snd x7))], AObj.box [Am.bool (m || decide (Prod.snd x5 > Prod.snd x7))]] } ex s'))))))))) ∧ ((¬(↑(List.length A) : Int) > (0 : Int)) → ((((↑(List.length B) : Int) > (0 : Int)) → (∃ x15 : D, (B[0]? = some x15) ∧ RunL P G none 5 (loopAt P 37 0) { env := slots 91 [(0, AV.yl 0), (1, AV.ptr 1 0), (2, AV.ptr 2 0)], H := [crng, AObj.box [AV.sl 2 false (encs A)], AObj.box [AV.sl 2 false (encs (List.drop 1 B))], AObj.box [Am.bool (l || decide ((0 : Int) < Prod.snd x15))], AObj.box [Am.bool (m || decide ((0 : Int) > Prod.snd x15))]] } ex s')) ∧ ((¬(↑(List.length B) : Int) > (0 : Int)) → (AEx.exit 0 = ex) ∧ ({ env := slots 91 [], H := [crng, AObj.box [AV.sl 2 false (encs A)], AObj.box [AV.sl 2 false (encs B)], AObj.box [Am.bool l], AObj.box [Am.bool m]] } = s')))))) : RunL P G none 5 (loopAt P 37 0) (clSt l m A B) ex s' := by
  by_cases c1 : ((↑(List.length A) : Int) > (0 : Int))
  · have h := h.1 c1
    by_cases c2 : ((↑(List.length B) : Int) = (0 : Int))
    · have h := h.1 c2
      obtain ⟨x3, o4, h⟩ := h
      exact RunL.next _ _ _ (cl_w_p1 A B l m x3) ⟨Sub.of_eq (by simp only [Go.Vec.encs_length]), (decide_eq_true c1), (rfl), Sub.of_eq (by simp only [Go.Vec.encs_length]), (beq_iff_eq.2 c2), (rfl), (el_nat o4), (el_nat o4), Sub.of_eq (by simp only [Go.Vec.encs_length, Go.Vec.encs_drop, Go.Vec.encs_take, Int.toNat_natCast, List.take_length]), (by rw [Go.Vec.encs_length]; omega), (@Go.Vec.cy_c (List.drop 1 A) (B) (l) (m) (Prod.fst x3) (Prod.snd x3) (0)), (rfl), trivial⟩ h
    · have h := h.2 c2
      obtain ⟨x5, o6, h⟩ := h
      obtain ⟨x7, o8, h⟩ := h
      by_cases c9 : (Prod.fst x5 < Prod.fst x7)
      · have h := h.1 c9
        exact RunL.next _ _ _ (cl_w_p2 A B l m x5 x7) ⟨Sub.of_eq (by simp only [Go.Vec.encs_length]), (decide_eq_true c1), (rfl), Sub.of_eq (by simp only [Go.Vec.encs_length]), (beq_eq_false_iff_ne.2 c2), Sub.of_eq (by simp only [Go.Vec.encs_length]), (decide_eq_true c1), (el_nat o6), (el_nat o8), (decide_eq_true c9), (el_nat o6), (el_nat o6), Sub.of_eq (by simp only [Go.Vec.encs_length, Go.Vec.encs_drop, Go.Vec.encs_take, Int.toNat_natCast, List.take_length]), (by rw [Go.Vec.encs_length]; omega), (@Go.Vec.cy_c (List.drop 1 A) (B) (l) (m) (Prod.fst x5) (Prod.snd x5) (0)), (rfl), trivial⟩ h
      · have h := h.2 c9
        by_cases c11 : (Prod.fst x7 < Prod.fst x5)
        · have h := h.1 c11
          exact RunL.next _ _ _ (cl_w_p3 A B l m x5 x7) ⟨Sub.of_eq (by simp only [Go.Vec.encs_length]), (decide_eq_true c1), (rfl), Sub.of_eq (by simp only [Go.Vec.encs_length]), (beq_eq_false_iff_ne.2 c2), Sub.of_eq (by simp only [Go.Vec.encs_length]), (decide_eq_true c1), (el_nat o6), (el_nat o8), (decide_eq_false c9), Sub.of_eq (by simp only [Go.Vec.encs_length]), (decide_eq_false (by omega)), (el_nat o8), (el_nat o6), (decide_eq_true c11), (el_nat o8), (el_nat o8), Sub.of_eq (by simp only [Go.Vec.encs_length, Go.Vec.encs_drop, Go.Vec.encs_take, Int.toNat_natCast, List.take_length]), (by rw [Go.Vec.encs_length]; omega), (@Go.Vec.cy_c (A) (List.drop 1 B) (l) (m) (Prod.fst x7) (0) (Prod.snd x7)), (rfl), trivial⟩ h
        · have h := h.2 c11
          exact RunL.next _ _ _ (cl_w_p4 A B l m x5 x7) ⟨Sub.of_eq (by simp only [Go.Vec.encs_length]), (decide_eq_true c1), (rfl), Sub.of_eq (by simp only [Go.Vec.encs_length]), (beq_eq_false_iff_ne.2 c2), Sub.of_eq (by simp only [Go.Vec.encs_length]), (decide_eq_true c1), (el_nat o6), (el_nat o8), (decide_eq_false c9), Sub.of_eq (by simp only [Go.Vec.encs_length]), (decide_eq_false (by omega)), (el_nat o8), (el_nat o6), (decide_eq_false c11), (el_nat o6), (el_nat o6), (el_nat o8), Sub.of_eq (by simp only [Go.Vec.encs_length, Go.Vec.encs_drop, Go.Vec.encs_take, Int.toNat_natCast, List.take_length]), (by rw [Go.Vec.encs_length]; omega), Sub.of_eq (by simp only [Go.Vec.encs_length, Go.Vec.encs_drop, Go.Vec.encs_take, Int.toNat_natCast, List.take_length]), (by rw [Go.Vec.encs_length]; omega), (@Go.Vec.cy_c (List.drop 1 A) (List.drop 1 B) (l) (m) (Prod.fst x5) (Prod.snd x5) (Prod.snd x7)), (rfl), trivial⟩ h
  · have h := h.2 c1
    by_cases c12 : ((↑(List.length B) : Int) > (0 : Int))
    · have h := h.1 c12
      obtain ⟨x15, o16, h⟩ := h
      exact RunL.next _ _ _ (cl_w_p5 A B l m x15) ⟨Sub.of_eq (by simp only [Go.Vec.encs_length]), (decide_eq_false c1), Sub.of_eq (by simp only [Go.Vec.encs_length]), (decide_eq_true c12), Sub.of_eq (by simp only [Go.Vec.encs_length]), (decide_eq_false (by omega)), Sub.of_eq (by simp only [Go.Vec.encs_length]), (decide_eq_false c1), (rfl), Sub.of_eq (by simp only [Go.Vec.encs_length]), (decide_eq_true (by omega)), (rfl), (el_nat o16), (el_nat o16), Sub.of_eq (by simp only [Go.Vec.encs_length, Go.Vec.encs_drop, Go.Vec.encs_take, Int.toNat_natCast, List.take_length]), (by rw [Go.Vec.encs_length]; omega), (@Go.Vec.cy_c (A) (List.drop 1 B) (l) (m) (Prod.fst x15) (0) (Prod.snd x15)), (rfl), trivial⟩ h
    · have h := h.2 c12
      obtain ⟨eX, eS⟩ := h
      exact RunL.to (RunL.exit _ _ _ (cl_w_p6 A B l m) ⟨Sub.of_eq (by simp only [Go.Vec.encs_length]), (decide_eq_false c1), Sub.of_eq (by simp only [Go.Vec.encs_length]), (decide_eq_false c12), trivial⟩) eX (SubS.of_eq eS)


end Go.Vec
