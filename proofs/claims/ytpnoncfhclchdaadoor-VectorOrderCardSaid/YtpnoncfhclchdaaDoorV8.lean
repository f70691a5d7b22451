/- VECTOR, 8: Compare; the reference's With. -/
import Derived.KernelRfl
import Derived.Test.YtpnoncfhclchdaaDoorV7
namespace Go.Vec
open Go Go.Am Go.Proofs

theorem okB_one (x y : Int) : okB [(x, y)] = isDotB (x, y) := by simp [okB, okN, okAt]
theorem rwith_c (a : List D) (x y : Int) (ha : a.length ≤ 1000000000) : CallC P G 13 [vec a, dot (x, y)] [] (.ret (.tup [vec (rjoinE a [(x, y)]), int (check2E a [(x, y)])])) [] := by
  refine rwith_w a x y ha ⟨fun h => ⟨fun _ => trivial, fun h' => ?_⟩, fun h => ?_⟩
  · have hb : okB [(x, y)] = false := by rw [okB_one, h']
    have e : check2E a [(x, y)] = 120 := by unfold check2E; rw [if_pos h]; unfold checkE; rw [hb]; rfl
    exact ⟨by unfold rjoinE; rw [if_neg (by rw [e]; decide)], e.symm⟩
  · have e : check2E a [(x, y)] = checkE a := by unfold check2E; rw [if_neg h]
    exact ⟨by unfold rjoinE; rw [if_neg (by rw [e]; exact h)], e.symm⟩

def lessP (ps : List (Int × Int × Int)) : Bool := ps.any fun p => decide (p.2.1 < p.2.2)
def moreP (ps : List (Int × Int × Int)) : Bool := ps.any fun p => decide (p.2.1 > p.2.2)

theorem cl_loop : ∀ n A B l m, A.length + B.length ≤ n → A.length ≤ 1000000000 → B.length ≤ 1000000000 →
    RunL P G none 5 (loopAt P 37 0) (clSt l m A B) (.exit 0) { env := slots 91 [], H := cq (l || lessP (prN n A B)) (m || moreP (prN n A B)) [] [] } := by
  intro n
  induction n with
  | zero =>
    intro A B l m hn hA hB
    have ea : A = [] := List.eq_nil_of_length_eq_zero (by omega)
    have eb : B = [] := List.eq_nil_of_length_eq_zero (by omega)
    subst ea eb
    refine cl_w [] [] l m hA hB _ _ ⟨fun h => absurd h (by simp), fun _ => ⟨fun h => absurd h (by simp), fun _ => ⟨rfl, ?_⟩⟩⟩
    simp only [prN, lessP, moreP, List.any_nil, Bool.or_false]
    rfl
  | succ n ih =>
    intro A B l m hn hA hB
    obtain ⟨s1, s2, s3, s4, s5⟩ := pr_arms A B
    have fin : ∀ {p A' B'}, prStep A B p A' B' → RunL P G none 5 (loopAt P 37 0) (clSt (l || decide (p.2.1 < p.2.2)) (m || decide (p.2.1 > p.2.2)) A' B') (.exit 0) { env := slots 91 [], H := cq (l || lessP (prN (n + 1) A B)) (m || moreP (prN (n + 1) A B)) [] [] } := fun {p A' B'} h => by
      have := ih A' B' (l || decide (p.2.1 < p.2.2)) (m || decide (p.2.1 > p.2.2)) (by have := h.1; omega) (by have := h.2.1; omega) (by have := h.2.2.1; omega)
      rw [h.2.2.2 n]
      simp only [lessP, moreP, List.any_cons] at this ⊢
      rw [Bool.or_assoc, Bool.or_assoc] at this
      exact this
    have gx : ∀ {l : List D}, ((l.length : Int) > 0) → ∃ x, l[0]? = some x := fun h => ⟨_, List.getElem?_eq_getElem (by omega)⟩
    refine cl_w A B l m hA hB _ _ ⟨fun h => ?_, fun h => ⟨fun h' => ?_, fun h' => ⟨rfl, ?_⟩⟩⟩
    · obtain ⟨x, hx⟩ := gx h
      refine ⟨fun h' => ⟨x, hx, fin (s1 x hx (by omega))⟩, fun h' => ?_⟩
      obtain ⟨y, hy⟩ := gx (l := B) (by omega)
      exact ⟨x, hx, y, hy, ⟨fun h1 => fin (s2 x y hx hy h1), fun h1 => ⟨fun h2 => fin (s3 x y hx hy h1 h2), fun h2 => fin (s4 x y hx hy h1 h2)⟩⟩⟩
    · obtain ⟨y, hy⟩ := gx h'
      exact ⟨y, hy, fin (s5 y (by omega) hy)⟩
    · have ea : A = [] := List.eq_nil_of_length_eq_zero (by omega)
      have eb : B = [] := List.eq_nil_of_length_eq_zero (by omega)
      subst ea eb
      simp only [prN, lessP, moreP, List.any_nil, Bool.or_false]
      rfl
def lessV (a b : List D) : Bool := lessP (prN (a.length + b.length) a b)
def moreV (a b : List D) : Bool := moreP (prN (a.length + b.length) a b)
theorem cl_l (a b : List D) (l m : Bool) (ha : a.length ≤ 1000000000) (hb : b.length ≤ 1000000000) : RunL P G none 5 (loopAt P 37 0) (clSt l m a b) (.exit 0) { env := slots 91 [], H := cq (l || lessV a b) (m || moreV a b) [] [] } := cl_loop _ a b l m (Nat.le_refl _) ha hb

theorem p37c_w_p1 (a : List D) (b : List D) (l : Bool) (m : Bool) : runF P G 37 [AV.yl 0, AV.ptr 1 0, AV.ptr 2 0] (cq l m a b) [Orc.loop [3, 4, 5, 6, 7, 8, 9, 10, 11, 12, 13, 14, 15, 16, 17, 18, 19, 20, 21, 22, 23, 24, 25, 26, 27, 28, 29, 30, 31, 32, 33, 34, 35, 36, 37, 38, 39, 40, 41, 42, 43, 44, 45, 46, 47, 48, 49, 50, 51, 52, 53, 54, 55, 56, 57, 58, 59, 60, 61, 62, 63, 64, 65, 66, 67, 68, 69, 70, 71, 72, 73, 74, 75, 76, 77, 78, 79, 80, 81, 82, 83, 84, 85, 86, 87, 88, 89, 90] 5 (AEx.exit 0) [AV.dead, AV.dead, AV.dead, AV.dead, AV.dead, AV.dead, AV.dead, AV.dead, AV.dead, AV.dead, AV.dead, AV.dead, AV.dead, AV.dead, AV.dead, AV.dead, AV.dead, AV.dead, AV.dead, AV.dead, AV.dead, AV.dead, AV.dead, AV.dead, AV.dead, AV.dead, AV.dead, AV.dead, AV.dead, AV.dead, AV.dead, AV.dead, AV.dead, AV.dead, AV.dead, AV.dead, AV.dead, AV.dead, AV.dead, AV.dead, AV.dead, AV.dead, AV.dead, AV.dead, AV.dead, AV.dead, AV.dead, AV.dead, AV.dead, AV.dead, AV.dead, AV.dead, AV.dead, AV.dead, AV.dead, AV.dead, AV.dead, AV.dead, AV.dead, AV.dead, AV.dead, AV.dead, AV.dead, AV.dead, AV.dead, AV.dead, AV.dead, AV.dead, AV.dead, AV.dead, AV.dead, AV.dead, AV.dead, AV.dead, AV.dead, AV.dead, AV.dead, AV.dead, AV.dead, AV.dead, AV.dead, AV.dead, AV.dead, AV.dead, AV.dead, AV.dead, AV.dead, AV.dead, AV.dead, AV.dead, AV.dead] [crng, AObj.box [AV.sl 2 false []], AObj.box [AV.sl 2 false []], AObj.box [Am.bool (l || lessV a b)], AObj.box [Am.bool (m || moreV a b)]]] =
    some (AOut.ret (AV.tup []), [crng, AObj.box [AV.sl 2 false []], AObj.box [AV.sl 2 false []], AObj.box [Am.bool (l || lessV a b)], AObj.box [Am.bool (m || moreV a b)]], [RunL P G none 5 (loopAt P 37 0) { env := slots 91 [(0, AV.yl 0), (1, AV.ptr 1 0), (2, AV.ptr 2 0)], H := [crng, AObj.box [AV.sl 2 false (encs a)], AObj.box [AV.sl 2 false (encs b)], AObj.box [Am.bool l], AObj.box [Am.bool m]] } (AEx.exit 0) { env := slots 91 [], H := [crng, AObj.box [AV.sl 2 false []], AObj.box [AV.sl 2 false []], AObj.box [Am.bool (l || lessV a b)], AObj.box [Am.bool (m || moreV a b)]] }]) := by kernel_rfl

theorem p37c_w (a b : List D) (l m : Bool) (ha : a.length ≤ 1000000000) (hb : b.length ≤ 1000000000) (h : True) : CallC P G 37 [AV.yl 0, AV.ptr 1 0, AV.ptr 2 0] (cq l m a b) (AOut.ret (AV.tup [])) (cq (l || lessV a b) (m || moreV a b) [] []) := by
  have _ := h
  exact callC_of_run _ (p37c_w_p1 a b l m) ⟨(@Go.Vec.cl_l (a) (b) (l) (m) (by omega) (by omega)), trivial⟩


theorem p37c_c (a b : List D) (l m : Bool) (ha : a.length ≤ 1000000000) (hb : b.length ≤ 1000000000) : CallC P G 37 [.yl 0, .ptr 1 0, .ptr 2 0] (cq l m a b) (.ret (.tup [])) (cq (l || lessV a b) (m || moreV a b) [] []) := p37c_w a b l m ha hb trivial

def cmpV (a b : List D) : Int := if lessV a b = true then (if moreV a b = true then 2 else -1) else if moreV a b = true then 1 else 0
def cmpE (a b : List D) : Int := if check2E a b = 0 then cmpV a b else 0

theorem cmp_w_p1 (a : List D) (b : List D) : runF P G 25 [vec a, vec b] [] [Orc.call [] (AOut.ret (int (check2E a b))) [], Orc.br false, Orc.call [] (AOut.ret (AV.fn (Fn.func 37) [] [AV.ptr 0 0, AV.ptr 1 0])) [AObj.box [vec a], AObj.box [vec b]], Orc.range [0, 1, 2, 3, 4, 5, 6, 9, 10, 11, 12, 13, 14, 15, 16, 17, 18, 19, 20, 21, 22, 23, 24, 25, 26, 27, 28, 29, 30, 31, 32, 33, 34, 35, 36, 37, 38, 39, 40, 41, 42, 43, 44] 0 none AEx.normal [] [], Orc.call [5, 2, 3, 0, 1] (AOut.ret (AV.tup [])) (cq (false || lessV a b) (false || moreV a b) [] []), Orc.br true, Orc.br true] =
    some (AOut.ret (AV.tup [int 2, int 0]), [], [CallC P G 34 [AV.sl 2 false (encs a), AV.sl 2 false (encs b)] [] (AOut.ret (int (check2E a b))) [], (check2E a b != 0) = false, CallC P G 35 [AV.sl 2 false (encs a), AV.sl 2 false (encs b)] [] (AOut.ret (AV.fn (Fn.func 37) [] [AV.ptr 0 0, AV.ptr 1 0])) [AObj.box [AV.sl 2 false (encs a)], AObj.box [AV.sl 2 false (encs b)]], CallC P G 37 [AV.yl 0, AV.ptr 1 0, AV.ptr 2 0] [AObj.rng LoopState.ready none (slots 45 [(7, AV.ptr 3 0), (8, AV.ptr 4 0)]) { toList := [19] } (asgAt P 25 0) (rbodyAt P 25 0), AObj.box [AV.sl 2 false (encs a)], AObj.box [AV.sl 2 false (encs b)], AObj.box [Am.bool false], AObj.box [Am.bool false]] (AOut.ret (AV.tup [])) [crng, AObj.box [AV.sl 2 false []], AObj.box [AV.sl 2 false []], AObj.box [Am.bool (false || lessV a b)], AObj.box [Am.bool (false || moreV a b)]], (false || lessV a b) = true, (false || moreV a b) = true]) := by kernel_rfl

theorem cmp_w_p2 (a : List D) (b : List D) : runF P G 25 [vec a, vec b] [] [Orc.call [] (AOut.ret (int (check2E a b))) [], Orc.br false, Orc.call [] (AOut.ret (AV.fn (Fn.func 37) [] [AV.ptr 0 0, AV.ptr 1 0])) [AObj.box [vec a], AObj.box [vec b]], Orc.range [0, 1, 2, 3, 4, 5, 6, 9, 10, 11, 12, 13, 14, 15, 16, 17, 18, 19, 20, 21, 22, 23, 24, 25, 26, 27, 28, 29, 30, 31, 32, 33, 34, 35, 36, 37, 38, 39, 40, 41, 42, 43, 44] 0 none AEx.normal [] [], Orc.call [5, 2, 3, 0, 1] (AOut.ret (AV.tup [])) (cq (false || lessV a b) (false || moreV a b) [] []), Orc.br true, Orc.br false, Orc.br true] =
    some (AOut.ret (AV.tup [int (-1), int 0]), [], [CallC P G 34 [AV.sl 2 false (encs a), AV.sl 2 false (encs b)] [] (AOut.ret (int (check2E a b))) [], (check2E a b != 0) = false, CallC P G 35 [AV.sl 2 false (encs a), AV.sl 2 false (encs b)] [] (AOut.ret (AV.fn (Fn.func 37) [] [AV.ptr 0 0, AV.ptr 1 0])) [AObj.box [AV.sl 2 false (encs a)], AObj.box [AV.sl 2 false (encs b)]], CallC P G 37 [AV.yl 0, AV.ptr 1 0, AV.ptr 2 0] [AObj.rng LoopState.ready none (slots 45 [(7, AV.ptr 3 0), (8, AV.ptr 4 0)]) { toList := [19] } (asgAt P 25 0) (rbodyAt P 25 0), AObj.box [AV.sl 2 false (encs a)], AObj.box [AV.sl 2 false (encs b)], AObj.box [Am.bool false], AObj.box [Am.bool false]] (AOut.ret (AV.tup [])) [crng, AObj.box [AV.sl 2 false []], AObj.box [AV.sl 2 false []], AObj.box [Am.bool (false || lessV a b)], AObj.box [Am.bool (false || moreV a b)]], (false || lessV a b) = true, (false || moreV a b) = false, (false || lessV a b) = true]) := by kernel_rfl

theorem cmp_w_p3 (a : List D) (b : List D) : runF P G 25 [vec a, vec b] [] [Orc.call [] (AOut.ret (int (check2E a b))) [], Orc.br false, Orc.call [] (AOut.ret (AV.fn (Fn.func 37) [] [AV.ptr 0 0, AV.ptr 1 0])) [AObj.box [vec a], AObj.box [vec b]], Orc.range [0, 1, 2, 3, 4, 5, 6, 9, 10, 11, 12, 13, 14, 15, 16, 17, 18, 19, 20, 21, 22, 23, 24, 25, 26, 27, 28, 29, 30, 31, 32, 33, 34, 35, 36, 37, 38, 39, 40, 41, 42, 43, 44] 0 none AEx.normal [] [], Orc.call [5, 2, 3, 0, 1] (AOut.ret (AV.tup [])) (cq (false || lessV a b) (false || moreV a b) [] []), Orc.br false, Orc.br false, Orc.br false, Orc.br true] =
    some (AOut.ret (AV.tup [int 1, int 0]), [], [CallC P G 34 [AV.sl 2 false (encs a), AV.sl 2 false (encs b)] [] (AOut.ret (int (check2E a b))) [], (check2E a b != 0) = false, CallC P G 35 [AV.sl 2 false (encs a), AV.sl 2 false (encs b)] [] (AOut.ret (AV.fn (Fn.func 37) [] [AV.ptr 0 0, AV.ptr 1 0])) [AObj.box [AV.sl 2 false (encs a)], AObj.box [AV.sl 2 false (encs b)]], CallC P G 37 [AV.yl 0, AV.ptr 1 0, AV.ptr 2 0] [AObj.rng LoopState.ready none (slots 45 [(7, AV.ptr 3 0), (8, AV.ptr 4 0)]) { toList := [19] } (asgAt P 25 0) (rbodyAt P 25 0), AObj.box [AV.sl 2 false (encs a)], AObj.box [AV.sl 2 false (encs b)], AObj.box [Am.bool false], AObj.box [Am.bool false]] (AOut.ret (AV.tup [])) [crng, AObj.box [AV.sl 2 false []], AObj.box [AV.sl 2 false []], AObj.box [Am.bool (false || lessV a b)], AObj.box [Am.bool (false || moreV a b)]], (false || lessV a b) = false, false = false, (false || lessV a b) = false, (false || moreV a b) = true]) := by kernel_rfl

theorem cmp_w_p4 (a : List D) (b : List D) : runF P G 25 [vec a, vec b] [] [Orc.call [] (AOut.ret (int (check2E a b))) [], Orc.br false, Orc.call [] (AOut.ret (AV.fn (Fn.func 37) [] [AV.ptr 0 0, AV.ptr 1 0])) [AObj.box [vec a], AObj.box [vec b]], Orc.range [0, 1, 2, 3, 4, 5, 6, 9, 10, 11, 12, 13, 14, 15, 16, 17, 18, 19, 20, 21, 22, 23, 24, 25, 26, 27, 28, 29, 30, 31, 32, 33, 34, 35, 36, 37, 38, 39, 40, 41, 42, 43, 44] 0 none AEx.normal [] [], Orc.call [5, 2, 3, 0, 1] (AOut.ret (AV.tup [])) (cq (false || lessV a b) (false || moreV a b) [] []), Orc.br false, Orc.br false, Orc.br false, Orc.br false] =
    some (AOut.ret (AV.tup [int 0, int 0]), [], [CallC P G 34 [AV.sl 2 false (encs a), AV.sl 2 false (encs b)] [] (AOut.ret (int (check2E a b))) [], (check2E a b != 0) = false, CallC P G 35 [AV.sl 2 false (encs a), AV.sl 2 false (encs b)] [] (AOut.ret (AV.fn (Fn.func 37) [] [AV.ptr 0 0, AV.ptr 1 0])) [AObj.box [AV.sl 2 false (encs a)], AObj.box [AV.sl 2 false (encs b)]], CallC P G 37 [AV.yl 0, AV.ptr 1 0, AV.ptr 2 0] [AObj.rng LoopState.ready none (slots 45 [(7, AV.ptr 3 0), (8, AV.ptr 4 0)]) { toList := [19] } (asgAt P 25 0) (rbodyAt P 25 0), AObj.box [AV.sl 2 false (encs a)], AObj.box [AV.sl 2 false (encs b)], AObj.box [Am.bool false], AObj.box [Am.bool false]] (AOut.ret (AV.tup [])) [crng, AObj.box [AV.sl 2 false []], AObj.box [AV.sl 2 false []], AObj.box [Am.bool (false || lessV a b)], AObj.box [Am.bool (false || moreV a b)]], (false || lessV a b) = false, false = false, (false || lessV a b) = false, (false || moreV a b) = false]) := by kernel_rfl

theorem cmp_w_p5 (a : List D) (b : List D) : runF P G 25 [vec a, vec b] [] [Orc.call [] (AOut.ret (int (check2E a b))) [], Orc.br true] =
    some (AOut.ret (AV.tup [int 0, int (check2E a b)]), [], [CallC P G 34 [AV.sl 2 false (encs a), AV.sl 2 false (encs b)] [] (AOut.ret (int (check2E a b))) [], (check2E a b != 0) = true]) := by kernel_rfl

theorem cmp_w (a b : List D) (ha : a.length ≤ 1000000000) (hb : b.length ≤ 1000000000) (h : (((check2E a b = (0 : Int)) → ((((false || lessV a b) = true) → ((((false || moreV a b) = true) → ((2 : Int) = cmpE a b) ∧ ((0 : Int) = check2E a b)) ∧ (((false || moreV a b) = false) → ((-1 : Int) = cmpE a b) ∧ ((0 : Int) = check2E a b)))) ∧ (((false || lessV a b) = false) → ((((false || moreV a b) = true) → ((1 : Int) = cmpE a b) ∧ ((0 : Int) = check2E a b)) ∧ (((false || moreV a b) = false) → ((0 : Int) = cmpE a b) ∧ ((0 : Int) = check2E a b)))))) ∧ ((¬check2E a b = (0 : Int)) → (0 : Int) = cmpE a b))) : CallC P G 25 [vec a, vec b] [] (AOut.ret (AV.tup [int (cmpE a b), int (check2E a b)])) [] := by
  by_cases c1 : (check2E a b = (0 : Int))
  · have h := h.1 c1
    rcases Bool.eq_false_or_eq_true ((false || lessV a b)) with c2 | c2
    · have h := h.1 c2
      rcases Bool.eq_false_or_eq_true ((false || moreV a b)) with c3 | c3
      · have h := h.1 c3
        obtain ⟨e1, e2⟩ := h
        exact CallC.out (callC_of_run _ (cmp_w_p1 a b) ⟨(@Go.Vec.check2_c (a) (b) (by omega) (by omega)), (congrArg Bool.not (beq_iff_eq.2 c1)), (@Go.Vec.pairs_c (a) (b)), (@Go.Vec.p37c_c (a) (b) (false) (false) (by omega) (by omega)), (c2), (c3), trivial⟩) (Sub.tups ⟨(Sub.int_eq e1), (Sub.int_eq e2), trivial⟩)
      · have h := h.2 c3
        obtain ⟨e1, e2⟩ := h
        exact CallC.out (callC_of_run _ (cmp_w_p2 a b) ⟨(@Go.Vec.check2_c (a) (b) (by omega) (by omega)), (congrArg Bool.not (beq_iff_eq.2 c1)), (@Go.Vec.pairs_c (a) (b)), (@Go.Vec.p37c_c (a) (b) (false) (false) (by omega) (by omega)), (c2), (c3), (c2), trivial⟩) (Sub.tups ⟨(Sub.int_eq e1), (Sub.int_eq e2), trivial⟩)
    · have h := h.2 c2
      rcases Bool.eq_false_or_eq_true ((false || moreV a b)) with c4 | c4
      · have h := h.1 c4
        obtain ⟨e1, e2⟩ := h
        exact CallC.out (callC_of_run _ (cmp_w_p3 a b) ⟨(@Go.Vec.check2_c (a) (b) (by omega) (by omega)), (congrArg Bool.not (beq_iff_eq.2 c1)), (@Go.Vec.pairs_c (a) (b)), (@Go.Vec.p37c_c (a) (b) (false) (false) (by omega) (by omega)), (c2), (rfl), (c2), (c4), trivial⟩) (Sub.tups ⟨(Sub.int_eq e1), (Sub.int_eq e2), trivial⟩)
      · have h := h.2 c4
        obtain ⟨e1, e2⟩ := h
        exact CallC.out (callC_of_run _ (cmp_w_p4 a b) ⟨(@Go.Vec.check2_c (a) (b) (by omega) (by omega)), (congrArg Bool.not (beq_iff_eq.2 c1)), (@Go.Vec.pairs_c (a) (b)), (@Go.Vec.p37c_c (a) (b) (false) (false) (by omega) (by omega)), (c2), (rfl), (c2), (c4), trivial⟩) (Sub.tups ⟨(Sub.int_eq e1), (Sub.int_eq e2), trivial⟩)
  · have h := h.2 c1
    have e1 := h
    exact CallC.out (callC_of_run _ (cmp_w_p5 a b) ⟨(@Go.Vec.check2_c (a) (b) (by omega) (by omega)), (congrArg Bool.not (beq_eq_false_iff_ne.2 c1)), trivial⟩) (Sub.tups ⟨(Sub.int_eq e1), Sub.refl _, trivial⟩)


end Go.Vec
