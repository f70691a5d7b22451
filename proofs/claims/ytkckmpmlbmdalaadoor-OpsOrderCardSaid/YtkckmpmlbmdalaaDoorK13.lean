import Derived.Test.YtkckmpmlbmdalaaDoorK12
import Derived.KernelRfl
/- VECTOR, 6: what the rounds over the pairs come to; the program's Join and Meet. -/
namespace Go.Vec
set_option maxRecDepth 100000
set_option linter.unusedSimpArgs false
set_option linter.unusedVariables false
open Go Go.Am Go.Proofs Go.Seat

/-- The pairs of two lists, merged; n: at least so many as both have. -/
def prN : Nat → List D → List D → List (Int × Int × Int)
  | 0, _, _ => []
  | _ + 1, [], [] => []
  | n + 1, x :: a, [] => (x.1, x.2, 0) :: prN n a []
  | n + 1, [], y :: b => (y.1, 0, y.2) :: prN n [] b
  | n + 1, x :: a, y :: b => if x.1 < y.1 then (x.1, x.2, 0) :: prN n a (y :: b) else if y.1 < x.1 then (y.1, 0, y.2) :: prN n (x :: a) b else (x.1, x.2, y.2) :: prN n a b
theorem prN_len : ∀ (n : Nat) (a b : List D), (prN n a b).length ≤ n
  | 0, _, _ => Nat.le_refl _
  | _ + 1, [], [] => Nat.zero_le _
  | n + 1, x :: a, [] => by simp only [prN, List.length_cons]; have := prN_len n a []; omega
  | n + 1, [], y :: b => by simp only [prN, List.length_cons]; have := prN_len n [] b; omega
  | n + 1, x :: a, y :: b => by
    have h1 := prN_len n (x :: a) b
    have h2 := prN_len n a (y :: b)
    have h3 := prN_len n a b
    simp only [prN]
    split
    · simp only [List.length_cons]; omega
    · split <;> (simp only [List.length_cons]; omega)
def ruleF (tk : Int → Int → Int) (p : Int × Int × Int) : Option D := if tk p.2.1 p.2.2 > 0 then some (p.1, tk p.2.1 p.2.2) else none

/-- What one round does to what is left. -/
def prStep (A B : List D) (p : Int × Int × Int) (A' B' : List D) : Prop := A'.length + B'.length + 1 ≤ A.length + B.length ∧ A'.length ≤ A.length ∧ B'.length ≤ B.length ∧ ∀ n, prN (n + 1) A B = p :: prN n A' B'

theorem pr_arms (A B : List D) :
    (∀ x, A[0]? = some x → B.length = 0 → prStep A B (x.1, x.2, 0) (A.drop 1) B) ∧
    (∀ x y, A[0]? = some x → B[0]? = some y → x.1 < y.1 → prStep A B (x.1, x.2, 0) (A.drop 1) B) ∧
    (∀ x y, A[0]? = some x → B[0]? = some y → ¬ x.1 < y.1 → y.1 < x.1 → prStep A B (y.1, 0, y.2) A (B.drop 1)) ∧
    (∀ x y, A[0]? = some x → B[0]? = some y → ¬ x.1 < y.1 → ¬ y.1 < x.1 → prStep A B (x.1, x.2, y.2) (A.drop 1) (B.drop 1)) ∧
    (∀ y, A.length = 0 → B[0]? = some y → prStep A B (y.1, 0, y.2) A (B.drop 1)) := by
  have hd : ∀ {l : List D} {x}, l[0]? = some x → l = x :: l.drop 1 := fun {l x} h => by
    cases l with
    | nil => simp at h
    | cons y t => simp at h; simp [h]
  refine ⟨fun x hx hb => ?_, fun x y hx hy h1 => ?_, fun x y hx hy h1 h2 => ?_, fun x y hx hy h1 h2 => ?_, fun y ha hy => ?_⟩
  · have eb : B = [] := List.eq_nil_of_length_eq_zero hb
    subst eb
    have ea := hd hx
    generalize hA : A.drop 1 = A' at ea
    subst ea
    exact ⟨by simp, by simp, by simp, fun n => rfl⟩
  · have ea := hd hx
    generalize hA : A.drop 1 = A' at ea
    subst ea
    have eb := hd hy
    generalize hB : B.drop 1 = B' at eb
    subst eb
    exact ⟨by simp; omega, by simp, by simp, fun n => by simp only [prN]; rw [if_pos h1]⟩
  · have ea := hd hx
    generalize hA : A.drop 1 = A' at ea
    subst ea
    have eb := hd hy
    generalize hB : B.drop 1 = B' at eb ⊢
    subst eb
    exact ⟨by simp; omega, by simp, by simp, fun n => by simp only [prN]; rw [if_neg h1, if_pos h2]⟩
  · have ea := hd hx
    generalize hA : A.drop 1 = A' at ea ⊢
    subst ea
    have eb := hd hy
    generalize hB : B.drop 1 = B' at eb ⊢
    subst eb
    exact ⟨by simp; omega, by simp, by simp, fun n => by simp only [prN]; rw [if_neg h1, if_neg h2]⟩
  · have ea : A = [] := List.eq_nil_of_length_eq_zero ha
    subst ea
    have eb := hd hy
    generalize hB : B.drop 1 = B' at eb ⊢
    subst eb
    exact ⟨by simp, by simp, by simp, fun n => rfl⟩

noncomputable def plOut (f g : Nat) (v : List D) : St := { env := slots 91 [], H := q1 f [] [] g v }
noncomputable def plFin (f : Nat) (t : List D) : St := { env := slots 91 [], H := if t = [] then q0 f [] [] else q1 f [] [] (t.length - 1) t }

section
variable (f : Nat) (tk : Int → Int → Int)
  (hy0 : ∀ A B d x y, YieldC P G 0 [.agg [int d, int x, int y]] (q0 f A B ++ [.box [int d, int x, int y]]) true (if tk x y > 0 then q1 f A B 0 [(d, tk x y)] else q0 f A B ++ [.box [int d, int x, int y]]))
  (hy1 : ∀ A B v g d x y, v.length ≤ 3000000000 → YieldC P G 0 [.agg [int d, int x, int y]] (q1 f A B g v ++ [.box [int d, int x, int y]]) true (if tk x y > 0 then q1 f A B (g + 1) (v ++ [(d, tk x y)]) ++ [.box [int d, int x, int y]] else q1 f A B g v ++ [.box [int d, int x, int y]]))
 include hy1
theorem pl_loop1 : ∀ n A B g v, A.length + B.length ≤ n → A.length ≤ 1000000000 → B.length ≤ 1000000000 → v.length + n ≤ 3000000000 →
    RunL P G none 5 (loopAt P 98 0) (plSt1 f A B g v) (.exit 0) (plOut f (g + ((prN n A B).filterMap (ruleF tk)).length) (v ++ (prN n A B).filterMap (ruleF tk))) := by
  intro n
  induction n with
  | zero =>
    intro A B g v hn hA hB hv
    have ea : A = [] := List.eq_nil_of_length_eq_zero (by omega)
    have eb : B = [] := List.eq_nil_of_length_eq_zero (by omega)
    subst ea eb
    refine pl_w1 f tk [] [] g v (by omega) hy1 hA hB _ _ ⟨fun h => absurd h (by simp), fun _ => ⟨fun h => absurd h (by simp), fun _ => ⟨rfl, ?_⟩⟩⟩
    simp only [prN, List.filterMap_nil, List.append_nil, List.length_nil, Nat.add_zero]
    rfl
  | succ n ih =>
    intro A B g v hn hA hB hv
    obtain ⟨s1, s2, s3, s4, s5⟩ := pr_arms A B
    have fin : ∀ {p A' B'}, prStep A B p A' B' →
        (tk p.2.1 p.2.2 > 0 → RunL P G none 5 (loopAt P 98 0) (plSt1 f A' B' (g + 1) (v ++ [(p.1, tk p.2.1 p.2.2)])) (.exit 0) (plOut f (g + ((prN (n + 1) A B).filterMap (ruleF tk)).length) (v ++ (prN (n + 1) A B).filterMap (ruleF tk)))) ∧
        (¬ tk p.2.1 p.2.2 > 0 → RunL P G none 5 (loopAt P 98 0) (plSt1 f A' B' g v) (.exit 0) (plOut f (g + ((prN (n + 1) A B).filterMap (ruleF tk)).length) (v ++ (prN (n + 1) A B).filterMap (ruleF tk)))) := fun {p A' B'} h => by
      refine ⟨fun hp => ?_, fun hp => ?_⟩
      · have := ih A' B' (g + 1) (v ++ [(p.1, tk p.2.1 p.2.2)]) (by have := h.1; omega) (by have := h.2.1; omega) (by have := h.2.2.1; omega) (by simp; omega)
        have e : ruleF tk p = some (p.1, tk p.2.1 p.2.2) := if_pos hp
        rw [h.2.2.2 n, List.filterMap_cons_some e, List.length_cons, show g + (((prN n A' B').filterMap (ruleF tk)).length + 1) = g + 1 + ((prN n A' B').filterMap (ruleF tk)).length by omega, show v ++ (p.1, tk p.2.1 p.2.2) :: (prN n A' B').filterMap (ruleF tk) = v ++ [(p.1, tk p.2.1 p.2.2)] ++ (prN n A' B').filterMap (ruleF tk) by simp]
        exact this
      · have := ih A' B' g v (by have := h.1; omega) (by have := h.2.1; omega) (by have := h.2.2.1; omega) (by omega)
        have e : ruleF tk p = none := if_neg hp
        rw [h.2.2.2 n, List.filterMap_cons_none e]
        exact this
    have gx : ∀ {l : List D}, ((l.length : Int) > 0) → ∃ x, l[0]? = some x := fun h => ⟨_, List.getElem?_eq_getElem (by omega)⟩
    refine pl_w1 f tk A B g v (by omega) hy1 hA hB _ _ ⟨fun h => ?_, fun h => ⟨fun h' => ?_, fun h' => ⟨rfl, ?_⟩⟩⟩
    · obtain ⟨x, hx⟩ := gx h
      refine ⟨fun h' => ⟨x, hx, fin (s1 x hx (by omega))⟩, fun h' => ?_⟩
      obtain ⟨y, hy⟩ := gx (l := B) (by omega)
      exact ⟨x, hx, y, hy, ⟨fun h1 => fin (s2 x y hx hy h1), fun h1 => ⟨fun h2 => fin (s3 x y hx hy h1 h2), fun h2 => fin (s4 x y hx hy h1 h2)⟩⟩⟩
    · obtain ⟨y, hy⟩ := gx h'
      exact ⟨y, hy, fin (s5 y (by omega) hy)⟩
    · have ea : A = [] := List.eq_nil_of_length_eq_zero (by omega)
      have eb : B = [] := List.eq_nil_of_length_eq_zero (by omega)
      subst ea eb
      simp only [prN, List.filterMap_nil, List.append_nil, List.length_nil, Nat.add_zero]
      rfl
 include hy0
theorem pl_loop0 : ∀ n A B, A.length + B.length ≤ n → A.length ≤ 1000000000 → B.length ≤ 1000000000 → n ≤ 2000000000 →
    RunL P G none 5 (loopAt P 98 0) (plSt0 f A B) (.exit 0) (plFin f ((prN n A B).filterMap (ruleF tk))) := by
  intro n
  induction n with
  | zero =>
    intro A B hn hA hB hv
    have ea : A = [] := List.eq_nil_of_length_eq_zero (by omega)
    have eb : B = [] := List.eq_nil_of_length_eq_zero (by omega)
    subst ea eb
    refine pl_w0 f tk [] [] hy0 hA hB _ _ ⟨fun h => absurd h (by simp), fun _ => ⟨fun h => absurd h (by simp), fun _ => ⟨rfl, ?_⟩⟩⟩
    rfl
  | succ n ih =>
    intro A B hn hA hB hv
    obtain ⟨s1, s2, s3, s4, s5⟩ := pr_arms A B
    have fin : ∀ {p A' B'}, prStep A B p A' B' →
        (tk p.2.1 p.2.2 > 0 → RunL P G none 5 (loopAt P 98 0) (plSt1 f A' B' 0 [(p.1, tk p.2.1 p.2.2)]) (.exit 0) (plFin f ((prN (n + 1) A B).filterMap (ruleF tk)))) ∧
        (¬ tk p.2.1 p.2.2 > 0 → RunL P G none 5 (loopAt P 98 0) (plSt0 f A' B') (.exit 0) (plFin f ((prN (n + 1) A B).filterMap (ruleF tk)))) := fun {p A' B'} h => by
      refine ⟨fun hp => ?_, fun hp => ?_⟩
      · have := pl_loop1 f tk hy1 n A' B' 0 [(p.1, tk p.2.1 p.2.2)] (by have := h.1; omega) (by have := h.2.1; omega) (by have := h.2.2.1; omega) (by simp; omega)
        have e : ruleF tk p = some (p.1, tk p.2.1 p.2.2) := if_pos hp
        rw [h.2.2.2 n, List.filterMap_cons_some e]
        have hne : ¬ (p.1, tk p.2.1 p.2.2) :: (prN n A' B').filterMap (ruleF tk) = [] := by simp
        unfold plFin
        rw [if_neg hne]
        rw [Nat.zero_add] at this
        exact this
      · have := ih A' B' (by have := h.1; omega) (by have := h.2.1; omega) (by have := h.2.2.1; omega) (by omega)
        have e : ruleF tk p = none := if_neg hp
        rw [h.2.2.2 n, List.filterMap_cons_none e]
        exact this
    have gx : ∀ {l : List D}, ((l.length : Int) > 0) → ∃ x, l[0]? = some x := fun h => ⟨_, List.getElem?_eq_getElem (by omega)⟩
    refine pl_w0 f tk A B hy0 hA hB _ _ ⟨fun h => ?_, fun h => ⟨fun h' => ?_, fun h' => ⟨rfl, ?_⟩⟩⟩
    · obtain ⟨x, hx⟩ := gx h
      refine ⟨fun h' => ⟨x, hx, fin (s1 x hx (by omega))⟩, fun h' => ?_⟩
      obtain ⟨y, hy⟩ := gx (l := B) (by omega)
      exact ⟨x, hx, y, hy, ⟨fun h1 => fin (s2 x y hx hy h1), fun h1 => ⟨fun h2 => fin (s3 x y hx hy h1 h2), fun h2 => fin (s4 x y hx hy h1 h2)⟩⟩⟩
    · obtain ⟨y, hy⟩ := gx h'
      exact ⟨y, hy, fin (s5 y (by omega) hy)⟩
    · have ea : A = [] := List.eq_nil_of_length_eq_zero (by omega)
      have eb : B = [] := List.eq_nil_of_length_eq_zero (by omega)
      subst ea eb
      rfl
end

def mergeV (tk : Int → Int → Int) (a b : List D) : List D := (prN (a.length + b.length) a b).filterMap (ruleF tk)

theorem pl_g (a b : List D) (ha : a.length ≤ 1000000000) (hb : b.length ≤ 1000000000) : RunL P G none 5 (loopAt P 98 0) (plSt0 125 a b) (.exit 0) { env := slots 91 [], H := if mergeV gmax a b = [] then q0 125 [] [] else q1 125 [] [] ((mergeV gmax a b).length - 1) (mergeV gmax a b) } :=
  pl_loop0 125 gmax gy0 gy1 _ a b (Nat.le_refl _) ha hb (by omega)
theorem p37g_w (a b : List D) (ha : a.length ≤ 1000000000) (hb : b.length ≤ 1000000000) (h : (((mergeV gmax a b = []) → [jrng, AObj.box [AV.sl 2 false []], AObj.box [AV.sl 2 false []], AObj.box [AV.lit (Value.func (Fn.func 125) { toList := [] } { toList := [] })], AObj.box [nilS]] = if mergeV gmax a b = [] then q0 125 [] [] else q1 125 [] [] (List.length (mergeV gmax a b) - 1) (mergeV gmax a b)) ∧ ((¬mergeV gmax a b = []) → [jrng, AObj.box [AV.sl 2 false []], AObj.box [AV.sl 2 false []], AObj.box [AV.lit (Value.func (Fn.func 125) { toList := [] } { toList := [] })], AObj.box [AV.own 7 (List.length (mergeV gmax a b) - 1) 0 (List.length (mergeV gmax a b))], AObj.gone, AObj.gone, AObj.arr (List.length (mergeV gmax a b) - 1) 2 false (encs (mergeV gmax a b))] = if mergeV gmax a b = [] then q0 125 [] [] else q1 125 [] [] (List.length (mergeV gmax a b) - 1) (mergeV gmax a b)))) : CallC P G 98 [AV.yl 0, AV.ptr 1 0, AV.ptr 2 0] (q0 125 a b) (AOut.ret (AV.tup [])) (if mergeV gmax a b = [] then q0 125 [] [] else q1 125 [] [] (List.length (mergeV gmax a b) - 1) (mergeV gmax a b)) := by
  by_cases c1 : (mergeV gmax a b = [])
  · have h := h.1 c1
    have eH := h
    exact CallC.heap ((show CallC P G 98 [AV.yl 0, AV.ptr 1 0, AV.ptr 2 0] (q0 125 a b) (AOut.ret (AV.tup [])) [jrng, AObj.box [AV.sl 2 false []], AObj.box [AV.sl 2 false []], AObj.box [AV.lit (Value.func (Fn.func 125) { toList := [] } { toList := [] })], AObj.box [nilS]] from callC_of [kl [3, 4, 5, 6, 7, 8, 9, 10, 11, 12, 13, 14, 15, 16, 17, 18, 19, 20, 21, 22, 23, 24, 25, 26, 27, 28, 29, 30, 31, 32, 33, 34, 35, 36, 37, 38, 39, 40, 41, 42, 43, 44, 45, 46, 47, 48, 49, 50, 51, 52, 53, 54, 55, 56, 57, 58, 59, 60, 61, 62, 63, 64, 65, 66, 67, 68, 69, 70, 71, 72, 73, 74, 75, 76, 77, 78, 79, 80, 81, 82, 83, 84, 85, 86, 87, 88, 89, 90] 5 (show RunL P G none 5 (loopAt P 98 0) { env := slots 91 [(0, AV.yl 0), (1, AV.ptr 1 0), (2, AV.ptr 2 0)], H := [jrng, AObj.box [AV.sl 2 false (encs a)], AObj.box [AV.sl 2 false (encs b)], AObj.box [AV.lit (Value.func (Fn.func 125) { toList := [] } { toList := [] })], AObj.box [nilS]] } (AEx.exit 0) { env := slots 91 [], H := [jrng, AObj.box [AV.sl 2 false []], AObj.box [AV.sl 2 false []], AObj.box [AV.lit (Value.func (Fn.func 125) { toList := [] } { toList := [] })], AObj.box [nilS]] } from (by have h0 := (@Go.Vec.pl_g (a) (b) (by omega) (by omega)); simp only [if_pos c1] at h0; exact h0))] (by kernel_rfl))) eH
  · have h := h.2 c1
    have eH := h
    exact CallC.heap ((show CallC P G 98 [AV.yl 0, AV.ptr 1 0, AV.ptr 2 0] (q0 125 a b) (AOut.ret (AV.tup [])) [jrng, AObj.box [AV.sl 2 false []], AObj.box [AV.sl 2 false []], AObj.box [AV.lit (Value.func (Fn.func 125) { toList := [] } { toList := [] })], AObj.box [AV.own 7 (List.length (mergeV gmax a b) - 1) 0 (List.length (mergeV gmax a b))], AObj.gone, AObj.gone, AObj.arr (List.length (mergeV gmax a b) - 1) 2 false (encs (mergeV gmax a b))] from callC_of [kl [3, 4, 5, 6, 7, 8, 9, 10, 11, 12, 13, 14, 15, 16, 17, 18, 19, 20, 21, 22, 23, 24, 25, 26, 27, 28, 29, 30, 31, 32, 33, 34, 35, 36, 37, 38, 39, 40, 41, 42, 43, 44, 45, 46, 47, 48, 49, 50, 51, 52, 53, 54, 55, 56, 57, 58, 59, 60, 61, 62, 63, 64, 65, 66, 67, 68, 69, 70, 71, 72, 73, 74, 75, 76, 77, 78, 79, 80, 81, 82, 83, 84, 85, 86, 87, 88, 89, 90] 5 (show RunL P G none 5 (loopAt P 98 0) { env := slots 91 [(0, AV.yl 0), (1, AV.ptr 1 0), (2, AV.ptr 2 0)], H := [jrng, AObj.box [AV.sl 2 false (encs a)], AObj.box [AV.sl 2 false (encs b)], AObj.box [AV.lit (Value.func (Fn.func 125) { toList := [] } { toList := [] })], AObj.box [nilS]] } (AEx.exit 0) { env := slots 91 [], H := [jrng, AObj.box [AV.sl 2 false []], AObj.box [AV.sl 2 false []], AObj.box [AV.lit (Value.func (Fn.func 125) { toList := [] } { toList := [] })], AObj.box [AV.own 7 (List.length (mergeV gmax a b) - 1) 0 (List.length (mergeV gmax a b))], AObj.gone, AObj.gone, AObj.arr (List.length (mergeV gmax a b) - 1) 2 false (encs (mergeV gmax a b))] } from (by have h0 := (@Go.Vec.pl_g (a) (b) (by omega) (by omega)); simp only [if_neg c1] at h0; exact h0))] (by kernel_rfl))) eH


theorem p37g_c (a b : List D) (ha : a.length ≤ 1000000000) (hb : b.length ≤ 1000000000) : CallC P G 98 [.yl 0, .ptr 1 0, .ptr 2 0] (q0 125 a b) (.ret (.tup [])) (if mergeV gmax a b = [] then q0 125 [] [] else q1 125 [] [] ((mergeV gmax a b).length - 1) (mergeV gmax a b)) :=
  p37g_w a b ha hb ⟨fun h => by rw [if_pos h]; rfl, fun h => by rw [if_neg h]; rfl⟩
theorem mg_w (a b : List D) (ha : a.length ≤ 1000000000) (hb : b.length ≤ 1000000000) (he : check2E a b = 0) (h : (((mergeV gmax a b = []) → ([]) = (mergeV gmax a b)) ∧ ((¬mergeV gmax a b = []) → True))) : CallC P G 59 [AV.agg [rl 125], vec a, vec b] [] (AOut.ret (AV.tup [vec (mergeV gmax a b), int 0])) [] := by
  have hz0 := (@Go.Vec.check2_c (a) (b) (by omega) (by omega))
  have hz1 : (check2E a b != 0) = false := (congrArg Bool.not (decide_eq_true (by omega)))
  have hz2 := (@Go.Vec.pairs_c (a) (b))
  by_cases c2 : (mergeV gmax a b = [])
  · have h := h.1 c2
    have e1 := h
    exact CallC.out ((show CallC P G 59 [AV.agg [rl 125], vec a, vec b] [] (AOut.ret (AV.tup [nilS, int 0])) [] from callC_of [kc [] hz0, kf hz1, kc [] hz2, ko (Orc.range [0, 1, 2, 4, 5, 7, 8, 9, 10, 11, 12, 13, 14, 15, 16, 17, 18, 19, 20, 21, 22, 23, 24, 25, 26, 27, 28, 29, 30, 31, 32, 33, 34] 0 none AEx.normal [] []), kc [5, 2, 3, 0, 1] (show CallC P G 98 [AV.yl 0, AV.ptr 1 0, AV.ptr 2 0] [AObj.rng LoopState.ready none (slots 35 [(3, AV.ptr 3 0), (6, AV.ptr 4 0)]) { toList := [20] } (asgAt P 59 0) (rbodyAt P 59 0), AObj.box [AV.sl 2 false (encs a)], AObj.box [AV.sl 2 false (encs b)], AObj.box [AV.lit (Value.func (Fn.func 125) { toList := [] } { toList := [] })], AObj.box [nilS]] (AOut.ret (AV.tup [])) [jrng, AObj.box [AV.sl 2 false []], AObj.box [AV.sl 2 false []], AObj.box [AV.lit (Value.func (Fn.func 125) { toList := [] } { toList := [] })], AObj.box [nilS]] from (by have h0 := (@Go.Vec.p37g_c (a) (b) (by omega) (by omega)); simp only [if_pos c2] at h0; exact h0))] (by kernel_rfl))) (Sub.tups ⟨(Sub.nil_eq (congrArg (List.map enc) e1)), Sub.refl _, trivial⟩)
  · have h := h.2 c2
    have _ := h
    exact callC_of [kc [] hz0, kf hz1, kc [] hz2, ko (Orc.range [0, 1, 2, 4, 5, 7, 8, 9, 10, 11, 12, 13, 14, 15, 16, 17, 18, 19, 20, 21, 22, 23, 24, 25, 26, 27, 28, 29, 30, 31, 32, 33, 34] 0 none AEx.normal [] []), kc [5, 2, 3, 0, 1] (show CallC P G 98 [AV.yl 0, AV.ptr 1 0, AV.ptr 2 0] [AObj.rng LoopState.ready none (slots 35 [(3, AV.ptr 3 0), (6, AV.ptr 4 0)]) { toList := [20] } (asgAt P 59 0) (rbodyAt P 59 0), AObj.box [AV.sl 2 false (encs a)], AObj.box [AV.sl 2 false (encs b)], AObj.box [AV.lit (Value.func (Fn.func 125) { toList := [] } { toList := [] })], AObj.box [nilS]] (AOut.ret (AV.tup [])) [jrng, AObj.box [AV.sl 2 false []], AObj.box [AV.sl 2 false []], AObj.box [AV.lit (Value.func (Fn.func 125) { toList := [] } { toList := [] })], AObj.box [AV.own 7 (List.length (mergeV gmax a b) - 1) 0 (List.length (mergeV gmax a b))], AObj.gone, AObj.gone, AObj.arr (List.length (mergeV gmax a b) - 1) 2 false (encs (mergeV gmax a b))] from (by have h0 := (@Go.Vec.p37g_c (a) (b) (by omega) (by omega)); simp only [if_neg c2] at h0; exact h0)), ko (Orc.fz (some 34) (encs (mergeV gmax a b))), kp (show ∀ (x : List AV), x ∈ encs (mergeV gmax a b) → AV.idsInL [] x = true from (Go.Vec.encs_ids _)), kp (show List.length (mergeV gmax a b) - 1 = List.length (mergeV gmax a b) - 1 from (rfl)), kp (show List.take (List.length (mergeV gmax a b)) (List.drop 0 (encs (mergeV gmax a b))) = encs (mergeV gmax a b) from (Go.Vec.encs_all _)), kp (show List.length (encs (mergeV gmax a b)) = List.length (mergeV gmax a b) from (Go.Vec.encs_length _)), kp (show ∀ (c : List AV), c ∈ encs (mergeV gmax a b) → List.all c AV.pureB = true from (Go.Vec.encs_pure _))] (by kernel_rfl)


end Go.Vec

/- VECTOR, 3: the reference's Join, Meet, Compare and With. -/
namespace Go.Vec
set_option maxRecDepth 100000
set_option linter.unusedSimpArgs false
set_option linter.unusedVariables false
open Go Go.Am Go.Proofs Go.Seat

def rjSt0 (a b : List D) (l : List Int) (k : Nat) : St := { env := slots 47 [(0, vec a), (1, vec b), (4, nilS), (5, int 0), (7, .sl 1 false (ints l)), (8, nilS), (9, int k)], H := [] }
def rjSt1 (a b : List D) (l : List Int) (k g : Nat) (v : List D) : St := { env := slots 47 [(0, vec a), (1, vec b), (4, nilS), (5, int 0), (7, .sl 1 false (ints l)), (8, .own 0 g 0 v.length), (9, int k)], H := [.arr g 2 false (encs v)] }

def rmSt0 (a b : List D) (l : List Int) (k : Nat) : St := { env := slots 51 [(0, vec a), (1, vec b), (4, nilS), (5, int 0), (7, .sl 1 false (ints l)), (8, nilS), (9, int k)], H := [] }
def rmSt1 (a b : List D) (l : List Int) (k g : Nat) (v : List D) : St := { env := slots 51 [(0, vec a), (1, vec b), (4, nilS), (5, int 0), (7, .sl 1 false (ints l)), (8, .own 0 g 0 v.length), (9, int k)], H := [.arr g 2 false (encs v)] }

def joinF (a b : List D) (d : Int) : Option D := some (d, if atV d b > atV d a then atV d b else atV d a)
def meetF (a b : List D) (d : Int) : Option D := if (if atV d b < atV d a then atV d b else atV d a) > 0 then some (d, if atV d b < atV d a then atV d b else atV d a) else none

def rjOut (g : Nat) (v : List D) : St := { env := slots 47 [(8, .own 0 g 0 v.length)], H := [.arr g 2 false (encs v)] }
def rjFin (t : List D) : St := { env := slots 47 [(8, if t = [] then nilS else .own 0 (t.length - 1) 0 t.length)], H := if t = [] then [] else [.arr (t.length - 1) 2 false (encs t)] }
def rmOut (g : Nat) (v : List D) : St := { env := slots 51 [(8, .own 0 g 0 v.length)], H := [.arr g 2 false (encs v)] }
def rmFin (t : List D) : St := { env := slots 51 [(8, if t = [] then nilS else .own 0 (t.length - 1) 0 t.length)], H := if t = [] then [] else [.arr (t.length - 1) 2 false (encs t)] }
def joinV (a b : List D) : List D := (devs a b).filterMap (joinF a b)
def meetV (a b : List D) : List D := (devs a b).filterMap (meetF a b)
theorem devs_len (a b : List D) : (devs a b).length ≤ a.length + b.length := devN_len _ a b

def compN (a b : List D) : Int := if mostB a b = true then (if mostB b a = true then 0 else -1) else if mostB b a = true then 1 else 2
def compE (a b : List D) : Int := if check2E a b = 0 then compN a b else 0

end Go.Vec

/- VECTOR, 7: the program's Join, Meet, With and Compare; the reference's With. -/
namespace Go.Vec
set_option maxRecDepth 100000
set_option linter.unusedSimpArgs false
set_option linter.unusedVariables false
open Go Go.Am Go.Proofs Go.Seat

theorem mg_c (a b : List D) (ha : a.length ≤ 1000000000) (hb : b.length ≤ 1000000000) (he : check2E a b = 0) : CallC P G 59 [.agg [rl 125], vec a, vec b] [] (.ret (.tup [vec (mergeV gmax a b), int 0])) [] :=
  mg_w a b ha hb he ⟨fun h => h.symm, fun _ => trivial⟩

theorem mg_e (a b : List D) (ha : a.length ≤ 1000000000) (hb : b.length ≤ 1000000000) (he : ¬ check2E a b = 0) (f : Nat) (h : True) : CallC P G 59 [AV.agg [rl f], vec a, vec b] [] (AOut.ret (AV.tup [vec [], int (check2E a b)])) [] := by
  have _ := h
  exact CallC.out ((show CallC P G 59 [AV.agg [rl f], vec a, vec b] [] (AOut.ret (AV.tup [nilS, int (check2E a b)])) [] from callC_of [kc [] (@Go.Vec.check2_c (a) (b) (by omega) (by omega)), kt (show (check2E a b != 0) = true from (congrArg Bool.not (decide_eq_false (by omega))))] (by kernel_rfl))) (Sub.tups ⟨Sub.nil _, Sub.refl _, trivial⟩)


theorem mg_ec (f : Nat) (a b : List D) (ha : a.length ≤ 1000000000) (hb : b.length ≤ 1000000000) (he : ¬ check2E a b = 0) : CallC P G 59 [.agg [rl f], vec a, vec b] [] (.ret (.tup [vec [], int (check2E a b)])) [] := mg_e a b ha hb he f trivial

/-! Join, Meet, With -/
def joinE (a b : List D) : List D := if check2E a b = 0 then mergeV gmax a b else []
def meetE (a b : List D) : List D := if check2E a b = 0 then mergeV gmin a b else []
theorem mg_j (a b : List D) (ha : a.length ≤ 1000000000) (hb : b.length ≤ 1000000000) : CallC P G 59 [.agg [rl 125], vec a, vec b] [] (.ret (.tup [vec (joinE a b), int (check2E a b)])) [] := by
  unfold joinE
  by_cases h : check2E a b = 0
  · rw [if_pos h, h]; exact mg_c a b ha hb h
  · rw [if_neg h]; exact mg_ec 125 a b ha hb h
theorem join_w (a b : List D) (ha : a.length ≤ 1000000000) (hb : b.length ≤ 1000000000) (h : True) : CallC P G 24 [vec a, vec b] [] (AOut.ret (AV.tup [vec (joinE a b), int (check2E a b)])) [] := by
  have _ := h
  exact callC_of [kc [] (@Go.Vec.mg_j (a) (b) (by omega) (by omega))] (by kernel_rfl)


theorem join_c (a b : List D) (ha : a.length ≤ 1000000000) (hb : b.length ≤ 1000000000) : CallC P G 24 [vec a, vec b] [] (.ret (.tup [vec (joinE a b), int (check2E a b)])) [] := join_w a b ha hb trivial

theorem with_w (a : List D) (x y : Int) (ha : a.length ≤ 1000000000) (h : True) : CallC P G 27 [vec a, dot (x, y)] [] (AOut.ret (AV.tup [vec (joinE a [(x, y)]), int (check2E a [(x, y)])])) [] := by
  have _ := h
  exact callC_of [kc [] (show CallC P G 24 [AV.sl 2 false (encs a), AV.sl 2 true [[int x, int y]]] [] (AOut.ret (AV.tup [AV.sl 2 false (encs (joinE a [(x, y)])), int (check2E a [(x, y)])])) [] from (CallC.args' (@Go.Vec.join_c (a) ([(x, y)]) (by omega) (by simp only [List.length_append, List.length_cons, List.length_nil, List.length_map] <;> omega)) ⟨Sub.refl _, Sub.loose _ _ _, trivial⟩))] (by kernel_rfl)


theorem with_c (a : List D) (x y : Int) (ha : a.length ≤ 1000000000) : CallC P G 27 [vec a, dot (x, y)] [] (.ret (.tup [vec (joinE a [(x, y)]), int (check2E a [(x, y)])])) [] := with_w a x y ha trivial

/-! The reference's -/
theorem okN_mem {v : List D} : ∀ n k, okN v n k = true → ∀ j, k ≤ j → j < k + n → ∀ x, v[j]? = some x → isDotB x = true
  | 0, k, _, j, h1, h2 => absurd h2 (by omega)
  | n + 1, k, h, j, h1, h2 => fun x hx => by
    simp only [okN, Bool.and_eq_true] at h
    by_cases e : j = k
    · subst e
      have := h.1
      simp only [okAt, hx, Bool.and_eq_true] at this
      exact this.1
    · exact okN_mem n (k + 1) h.2 j (by omega) (by omega) x hx
theorem ok_dots {v : List D} (h : okB v = true) : ∀ x ∈ v, isDotB x = true := fun x hx => by
  obtain ⟨j, hj⟩ := List.mem_iff_getElem?.1 hx
  exact okN_mem _ _ h j (Nat.zero_le _) (by have := (List.getElem?_eq_some_iff.1 hj).1; omega) x hj
theorem checkE_ok {v : List D} : checkE v = 0 ↔ okB v = true := by
  unfold checkE
  by_cases h : okB v = true
  · rw [if_pos h]; simp [h]
  · rw [if_neg h]; simp [h]
theorem check2E_ok {a b : List D} : check2E a b = 0 ↔ okB a = true ∧ okB b = true := by
  unfold check2E
  by_cases h : checkE a = 0
  · rw [if_pos h]; simp [checkE_ok.1 h, checkE_ok]
  · rw [if_neg h]
    exact ⟨fun h' => absurd h' h, fun h' => absurd (checkE_ok.2 h'.1) h⟩
theorem ok_lt {v : List D} (h : okB v = true) : ∀ y ∈ v, y.1 < 512 := fun y hy => by
  have := ok_dots h y hy
  simp only [isDotB, Bool.and_eq_true, decide_eq_true_eq] at this
  exact this.1.1.2
def rjoinE (a b : List D) : List D := if check2E a b = 0 then joinV a b else []
def rmeetE (a b : List D) : List D := if check2E a b = 0 then meetV a b else []
/-! Compare -/
end Go.Vec

/- VECTOR, 8: Compare; the reference's With. -/
namespace Go.Vec
set_option maxRecDepth 100000
set_option linter.unusedSimpArgs false
set_option linter.unusedVariables false
open Go Go.Am Go.Proofs Go.Seat

theorem okB_one (x y : Int) : okB [(x, y)] = isDotB (x, y) := by simp [okB, okN, okAt]
def lessP (ps : List (Int × Int × Int)) : Bool := ps.any fun p => decide (p.2.1 < p.2.2)
def moreP (ps : List (Int × Int × Int)) : Bool := ps.any fun p => decide (p.2.1 > p.2.2)

def lessV (a b : List D) : Bool := lessP (prN (a.length + b.length) a b)
def moreV (a b : List D) : Bool := moreP (prN (a.length + b.length) a b)
def cmpV (a b : List D) : Int := if lessV a b = true then (if moreV a b = true then 2 else -1) else if moreV a b = true then 1 else 0
def cmpE (a b : List D) : Int := if check2E a b = 0 then cmpV a b else 0

end Go.Vec

/- OPS, 3: the program's Check. -/
namespace Go.Ops
set_option maxRecDepth 100000
set_option linter.unusedSimpArgs false
set_option linter.unusedVariables false
open Go Go.Am Go.Proofs Go.Seat Go.Vec Go.Cdc

/-! The kinds -/
def zK : AV := .lit (.agg #[.int .i64 0, .nilFunc])
theorem key_ok (k : Int) (h : -9223372036854775808 ≤ k ∧ k < 9223372036854775808) : ∃ l, keyOf P 3 (.int .i64 k) = some l :=
  ⟨_, Maps.keyOf_int_mk Tryd.underlying3 (by simp [Lit.wf, IntKind.min, IntKind.max, IntKind.signed, IntKind.bits]; omega)⟩
theorem kinds_ok : ∀ e ∈ kindsE, ∃ l, keyOf P 3 e.1 = some l := by
  intro e he
  simp only [kindsE, List.mem_cons, List.not_mem_nil, or_false] at he
  rcases he with rfl | rfl | rfl | rfl | rfl | rfl | rfl | rfl <;> exact key_ok _ (by decide)
def partOf (k : Int) : Int := if k = 1 ∨ k = 2 then 1 else if k = 3 ∨ k = 4 then 2 else if k = 5 then 3 else if k = 6 ∨ k = 7 ∨ k = 8 then 4 else 0
theorem kg {k p : Int} {f : Nat} (hk : -9223372036854775808 ≤ k ∧ k < 9223372036854775808) (h : (.int .i64 k, .agg [int p, fnV f]) ∈ kindsE) : MapGet P 3 kindsE (.int .i64 k) zK (.agg [int p, fnV f]) true :=
  ⟨Maps.int_keyed Tryd.underlying3, key_ok k hk, kinds_ok, .inl ⟨rfl, h⟩⟩
theorem kg1 : MapGet P 3 kindsE (.int .i64 1) zK (.agg [int 1, fnV 115]) true := kg (by decide) (by simp [kindsE])
theorem kg2 : MapGet P 3 kindsE (.int .i64 2) zK (.agg [int 1, fnV 117]) true := kg (by decide) (by simp [kindsE])
theorem kg3 : MapGet P 3 kindsE (.int .i64 3) zK (.agg [int 2, fnV 119]) true := kg (by decide) (by simp [kindsE])
theorem kg4 : MapGet P 3 kindsE (.int .i64 4) zK (.agg [int 2, fnV 120]) true := kg (by decide) (by simp [kindsE])
theorem kg5 : MapGet P 3 kindsE (.int .i64 5) zK (.agg [int 3, fnV 121]) true := kg (by decide) (by simp [kindsE])
theorem kg6 : MapGet P 3 kindsE (.int .i64 6) zK (.agg [int 4, fnV 122]) true := kg (by decide) (by simp [kindsE])
theorem kg7 : MapGet P 3 kindsE (.int .i64 7) zK (.agg [int 4, fnV 123]) true := kg (by decide) (by simp [kindsE])
theorem kg8 : MapGet P 3 kindsE (.int .i64 8) zK (.agg [int 4, fnV 124]) true := kg (by decide) (by simp [kindsE])
theorem kgn (k : Int) (hk : -9223372036854775808 ≤ k ∧ k < 9223372036854775808) (h : k < 1 ∨ 8 < k) : MapGet P 3 kindsE (.int .i64 k) zK zK false :=
  ⟨Maps.int_keyed Tryd.underlying3, key_ok k hk, kinds_ok, .inr ⟨rfl, rfl, fun e he => by
    simp only [kindsE, List.mem_cons, List.not_mem_nil, or_false] at he
    rcases he with rfl | rfl | rfl | rfl | rfl | rfl | rfl | rfl <;> (intro hq; simp only [Value.int.injEq, true_and] at hq; omega)⟩⟩

/-! Check: what fails first -/
theorem chkA (o : OP) (l : List D) (f : Int) (hw : CallC P G 27 [nilS, dot (o.dv, o.sq)] [] (.ret (.tup [vec l, int f])) []) (hf : ¬ f = 0) (h : True) : CallC P G 12 [op o] [] (AOut.ret (int 170)) [] := by
  have _ := h
  exact callC_of [kc [] (@hw ), kt (show (f != 0) = true from (congrArg Bool.not (decide_eq_false (by omega)))), kt (Eq.refl true), kt (Eq.refl true), kt (Eq.refl true), kt (Eq.refl true)] (by kernel_rfl)


theorem chkB (o : OP) (l : List D) (hw : CallC P G 27 [nilS, dot (o.dv, o.sq)] [] (.ret (.tup [vec l, int 0])) []) (ht : o.tm < 1) (h : True) : CallC P G 12 [op o] [] (AOut.ret (int 170)) [] := by
  have _ := h
  exact callC_of [kc [] (@hw ), kf (Eq.refl false), kt (show decide (OP.tm o < (1 : Int)) = true from (decide_eq_true (by omega))), kt (Eq.refl true), kt (Eq.refl true), kt (Eq.refl true)] (by kernel_rfl)


theorem chkC (o : OP) (l : List D) (hw : CallC P G 27 [nilS, dot (o.dv, o.sq)] [] (.ret (.tup [vec l, int 0])) []) (ht : 1 ≤ o.tm) (ht2 : 1099511627776 < o.tm) (h : True) : CallC P G 12 [op o] [] (AOut.ret (int 170)) [] := by
  have _ := h
  exact callC_of [kc [] (@hw ), kf (Eq.refl false), kf (show decide (OP.tm o < (1 : Int)) = false from (decide_eq_false (by omega))), kt (show decide (OP.tm o > (1099511627776 : Int)) = true from (decide_eq_true (by omega))), kt (Eq.refl true), kt (Eq.refl true)] (by kernel_rfl)


theorem chkD (o : OP) (l : List D) (f : Int) (hw : CallC P G 27 [nilS, dot (o.dv, o.sq)] [] (.ret (.tup [vec l, int 0])) []) (ht : 1 ≤ o.tm) (ht2 : o.tm ≤ 1099511627776) (hv : CallC P G 25 [vec o.cx] [] (.ret (int f)) []) (hf : ¬ f = 0) (h : True) : CallC P G 12 [op o] [] (AOut.ret (int 170)) [] := by
  have _ := h
  exact callC_of [kc [] (@hw ), kf (Eq.refl false), kf (show decide (OP.tm o < (1 : Int)) = false from (decide_eq_false (by omega))), kf (show decide (OP.tm o > (1099511627776 : Int)) = false from (decide_eq_false (by omega))), kc [] (@hv ), kt (show (f != 0) = true from (congrArg Bool.not (decide_eq_false (by omega)))), kt (Eq.refl true)] (by kernel_rfl)


theorem chkE (o : OP) (l : List D) (hw : CallC P G 27 [nilS, dot (o.dv, o.sq)] [] (.ret (.tup [vec l, int 0])) []) (ht : 1 ≤ o.tm) (ht2 : o.tm ≤ 1099511627776) (hv : CallC P G 25 [vec o.cx] [] (.ret (int 0)) []) (hc : CallC P G 26 [vec o.cx, dot (o.dv, o.sq)] [] (.ret (bool true)) []) (h : True) : CallC P G 12 [op o] [] (AOut.ret (int 170)) [] := by
  have _ := h
  exact callC_of [kc [] (@hw ), kf (Eq.refl false), kf (show decide (OP.tm o < (1 : Int)) = false from (decide_eq_false (by omega))), kf (show decide (OP.tm o > (1099511627776 : Int)) = false from (decide_eq_false (by omega))), kc [] (@hv ), kf (Eq.refl false), kc [] (@hc ), kt (Eq.refl true)] (by kernel_rfl)


theorem chkF (o : OP) (l : List D) (hw : CallC P G 27 [nilS, dot (o.dv, o.sq)] [] (.ret (.tup [vec l, int 0])) []) (ht : 1 ≤ o.tm) (ht2 : o.tm ≤ 1099511627776) (hv : CallC P G 25 [vec o.cx] [] (.ret (int 0)) []) (hc : CallC P G 26 [vec o.cx, dot (o.dv, o.sq)] [] (.ret (bool false)) []) (hm : MapGet P 3 kindsE (.int .i64 o.kd) zK zK false) (h : True) : CallC P G 12 [op o] [] (AOut.ret (int 170)) [] := by
  have _ := h
  exact callC_of [kc [] (@hw ), kf (Eq.refl false), kf (show decide (OP.tm o < (1 : Int)) = false from (decide_eq_false (by omega))), kf (show decide (OP.tm o > (1099511627776 : Int)) = false from (decide_eq_false (by omega))), kc [] (@hv ), kf (Eq.refl false), kc [] (@hc ), kf (Eq.refl false), ko (Orc.mget zK false), kp (@hm ), kt (Eq.refl true), kt (Eq.refl true), kt (Eq.refl true), kt (Eq.refl true), kt (Eq.refl true)] (by kernel_rfl)


/-! Check: each kind -/

theorem chk1 (o : OP) (l : List D) (b : Bool) (v : Int) (hcx : o.cx.length ≤ 1000000000) (hw : CallC P G 27 [nilS, dot (o.dv, o.sq)] [] (.ret (.tup [vec l, int 0])) []) (ht : 1 ≤ o.tm) (ht2 : o.tm ≤ 1099511627776) (hv : CallC P G 25 [vec o.cx] [] (.ret (int 0)) []) (hc : CallC P G 26 [vec o.cx, dot (o.dv, o.sq)] [] (.ret (bool false)) []) (hk : CallC P G 115 [opk o 1] [] (.ret (bool b)) []) (hr : CallC P G 32 [opk o 1] [] (.ret (op (restO o 1))) []) (hs : CallC P G 16 [op (restO o 1), op zop] [] (.ret (bool (decide (restO o 1 = zop)))) []) (h : (((OP.pk o = (1 : Int)) → ((((↑(ByteArray.size (OP.pn o)) : Int) > (64 : Int)) → (170 : Int) = (v)) ∧ ((¬(↑(ByteArray.size (OP.pn o)) : Int) > (64 : Int)) → ((((b) = true) → (((restO o 1 = zop) → (0 : Int) = (v)) ∧ ((¬restO o 1 = zop) → (170 : Int) = (v)))) ∧ (((b) = false) → (170 : Int) = (v)))))) ∧ ((¬OP.pk o = (1 : Int)) → (170 : Int) = (v)))) : CallC P G 12 [opk o 1] [] (AOut.ret (int v)) [] := by
  have hz0 := (@hw )
  have hz1 : decide (OP.tm o < (1 : Int)) = false := (decide_eq_false (by omega))
  have hz2 : decide (OP.tm o > (1099511627776 : Int)) = false := (decide_eq_false (by omega))
  have hz3 := (@hv )
  have hz4 := (@hc )
  have hz5 := (@Go.Ops.kg1 )
  have hz7 := (@hk )
  have hz9 := (@hr )
  have hz10 : CallC P G 16 [AV.agg [int (OP.dv (restO o 1)), int (OP.sq (restO o 1)), int (OP.tm (restO o 1)), AV.sl 2 false [], int (OP.pk (restO o 1)), str (OP.pn (restO o 1)), int (OP.kd (restO o 1)), int (OP.f1 (restO o 1)), int (OP.f2 (restO o 1)), int (OP.f3 (restO o 1)), int (OP.t1 (restO o 1)), int (OP.t2 (restO o 1)), int (OP.t3 (restO o 1)), str (OP.ky (restO o 1)), str (OP.vl (restO o 1)), int (OP.n (restO o 1)), Am.bool (OP.on (restO o 1))], AV.agg [int 0, int 0, int 0, nilS, int 0, str { data := #[] }, int 0, int 0, int 0, int 0, int 0, int 0, int 0, str { data := #[] }, str { data := #[] }, int 0, Am.bool false]] [] (AOut.ret (Am.bool (decide (restO o 1 = zop)))) [] := (CallC.args' (@hs ) ⟨Sub.refl _, Sub.aggs ⟨Sub.refl _, Sub.refl _, Sub.refl _, Sub.nil _, Sub.refl _, Sub.refl _, Sub.refl _, Sub.refl _, Sub.refl _, Sub.refl _, Sub.refl _, Sub.refl _, Sub.refl _, Sub.refl _, Sub.refl _, Sub.refl _, Sub.refl _, trivial⟩, trivial⟩)
  by_cases c3 : (OP.pk o = (1 : Int))
  · have h := h.1 c3
    have hz6 : (OP.pk o != 1) = false := (congrArg Bool.not (beq_iff_eq.2 c3))
    by_cases c4 : ((↑(ByteArray.size (OP.pn o)) : Int) > (64 : Int))
    · have h := h.1 c4
      have e1 := h
      exact callC_out (Sub.int_eq e1) [kc [] hz0, kf (Eq.refl false), kf hz1, kf hz2, kc [] hz3, kf (Eq.refl false), kc [] hz4, kf (Eq.refl false), ko (Orc.mget (AV.agg [int 1, fnV 115]) true), kp hz5, kf (Eq.refl false), kf hz6, kt (decide_eq_true c4), kt (Eq.refl true), kt (Eq.refl true)] (by kernel_rfl)
    · have h := h.2 c4
      rcases Bool.eq_false_or_eq_true ((b)) with c5 | c5
      · have h := h.1 c5
        have hz8 : (!b) = false := (congrArg Bool.not (c5))
        by_cases c6 : (restO o 1 = zop)
        · have h := h.1 c6
          have e1 := h
          exact callC_out (Sub.int_eq e1) [kc [] hz0, kf (Eq.refl false), kf hz1, kf hz2, kc [] hz3, kf (Eq.refl false), kc [] hz4, kf (Eq.refl false), ko (Orc.mget (AV.agg [int 1, fnV 115]) true), kp hz5, kf (Eq.refl false), kf hz6, kf (decide_eq_false c4), kc [] hz7, kf hz8, kc [] hz9, kc [] hz10, kf (show (!decide (restO o 1 = zop)) = false from (congrArg Bool.not (decide_eq_true c6)))] (by kernel_rfl)
        · have h := h.2 c6
          have e1 := h
          exact callC_out (Sub.int_eq e1) [kc [] hz0, kf (Eq.refl false), kf hz1, kf hz2, kc [] hz3, kf (Eq.refl false), kc [] hz4, kf (Eq.refl false), ko (Orc.mget (AV.agg [int 1, fnV 115]) true), kp hz5, kf (Eq.refl false), kf hz6, kf (decide_eq_false c4), kc [] hz7, kf hz8, kc [] hz9, kc [] hz10, kt (show (!decide (restO o 1 = zop)) = true from (congrArg Bool.not (decide_eq_false c6)))] (by kernel_rfl)
      · have h := h.2 c5
        have e1 := h
        exact callC_out (Sub.int_eq e1) [kc [] hz0, kf (Eq.refl false), kf hz1, kf hz2, kc [] hz3, kf (Eq.refl false), kc [] hz4, kf (Eq.refl false), ko (Orc.mget (AV.agg [int 1, fnV 115]) true), kp hz5, kf (Eq.refl false), kf hz6, kf (decide_eq_false c4), kc [] hz7, kt (show (!b) = true from (congrArg Bool.not (c5))), kt (Eq.refl true)] (by kernel_rfl)
  · have h := h.2 c3
    have e1 := h
    exact callC_out (Sub.int_eq e1) [kc [] hz0, kf (Eq.refl false), kf hz1, kf hz2, kc [] hz3, kf (Eq.refl false), kc [] hz4, kf (Eq.refl false), ko (Orc.mget (AV.agg [int 1, fnV 115]) true), kp hz5, kf (Eq.refl false), kt (show (OP.pk o != 1) = true from (congrArg Bool.not (beq_eq_false_iff_ne.2 c3))), kt (Eq.refl true), kt (Eq.refl true), kt (Eq.refl true)] (by kernel_rfl)


theorem chk2 (o : OP) (l : List D) (b : Bool) (v : Int) (hcx : o.cx.length ≤ 1000000000) (hw : CallC P G 27 [nilS, dot (o.dv, o.sq)] [] (.ret (.tup [vec l, int 0])) []) (ht : 1 ≤ o.tm) (ht2 : o.tm ≤ 1099511627776) (hv : CallC P G 25 [vec o.cx] [] (.ret (int 0)) []) (hc : CallC P G 26 [vec o.cx, dot (o.dv, o.sq)] [] (.ret (bool false)) []) (hk : CallC P G 117 [opk o 2] [] (.ret (bool b)) []) (hr : CallC P G 32 [opk o 2] [] (.ret (op (restO o 2))) []) (hs : CallC P G 16 [op (restO o 2), op zop] [] (.ret (bool (decide (restO o 2 = zop)))) []) (h : (((OP.pk o = (1 : Int)) → ((((↑(ByteArray.size (OP.pn o)) : Int) > (64 : Int)) → (170 : Int) = (v)) ∧ ((¬(↑(ByteArray.size (OP.pn o)) : Int) > (64 : Int)) → ((((b) = true) → (((restO o 2 = zop) → (0 : Int) = (v)) ∧ ((¬restO o 2 = zop) → (170 : Int) = (v)))) ∧ (((b) = false) → (170 : Int) = (v)))))) ∧ ((¬OP.pk o = (1 : Int)) → (170 : Int) = (v)))) : CallC P G 12 [opk o 2] [] (AOut.ret (int v)) [] := by
  have hz0 := (@hw )
  have hz1 : decide (OP.tm o < (1 : Int)) = false := (decide_eq_false (by omega))
  have hz2 : decide (OP.tm o > (1099511627776 : Int)) = false := (decide_eq_false (by omega))
  have hz3 := (@hv )
  have hz4 := (@hc )
  have hz5 := (@Go.Ops.kg2 )
  have hz7 := (@hk )
  have hz9 := (@hr )
  have hz10 : CallC P G 16 [AV.agg [int (OP.dv (restO o 2)), int (OP.sq (restO o 2)), int (OP.tm (restO o 2)), AV.sl 2 false [], int (OP.pk (restO o 2)), str (OP.pn (restO o 2)), int (OP.kd (restO o 2)), int (OP.f1 (restO o 2)), int (OP.f2 (restO o 2)), int (OP.f3 (restO o 2)), int (OP.t1 (restO o 2)), int (OP.t2 (restO o 2)), int (OP.t3 (restO o 2)), str (OP.ky (restO o 2)), str (OP.vl (restO o 2)), int (OP.n (restO o 2)), Am.bool (OP.on (restO o 2))], AV.agg [int 0, int 0, int 0, nilS, int 0, str { data := #[] }, int 0, int 0, int 0, int 0, int 0, int 0, int 0, str { data := #[] }, str { data := #[] }, int 0, Am.bool false]] [] (AOut.ret (Am.bool (decide (restO o 2 = zop)))) [] := (CallC.args' (@hs ) ⟨Sub.refl _, Sub.aggs ⟨Sub.refl _, Sub.refl _, Sub.refl _, Sub.nil _, Sub.refl _, Sub.refl _, Sub.refl _, Sub.refl _, Sub.refl _, Sub.refl _, Sub.refl _, Sub.refl _, Sub.refl _, Sub.refl _, Sub.refl _, Sub.refl _, Sub.refl _, trivial⟩, trivial⟩)
  by_cases c3 : (OP.pk o = (1 : Int))
  · have h := h.1 c3
    have hz6 : (OP.pk o != 1) = false := (congrArg Bool.not (beq_iff_eq.2 c3))
    by_cases c4 : ((↑(ByteArray.size (OP.pn o)) : Int) > (64 : Int))
    · have h := h.1 c4
      have e1 := h
      exact callC_out (Sub.int_eq e1) [kc [] hz0, kf (Eq.refl false), kf hz1, kf hz2, kc [] hz3, kf (Eq.refl false), kc [] hz4, kf (Eq.refl false), ko (Orc.mget (AV.agg [int 1, fnV 117]) true), kp hz5, kf (Eq.refl false), kf hz6, kt (decide_eq_true c4), kt (Eq.refl true), kt (Eq.refl true)] (by kernel_rfl)
    · have h := h.2 c4
      rcases Bool.eq_false_or_eq_true ((b)) with c5 | c5
      · have h := h.1 c5
        have hz8 : (!b) = false := (congrArg Bool.not (c5))
        by_cases c6 : (restO o 2 = zop)
        · have h := h.1 c6
          have e1 := h
          exact callC_out (Sub.int_eq e1) [kc [] hz0, kf (Eq.refl false), kf hz1, kf hz2, kc [] hz3, kf (Eq.refl false), kc [] hz4, kf (Eq.refl false), ko (Orc.mget (AV.agg [int 1, fnV 117]) true), kp hz5, kf (Eq.refl false), kf hz6, kf (decide_eq_false c4), kc [] hz7, kf hz8, kc [] hz9, kc [] hz10, kf (show (!decide (restO o 2 = zop)) = false from (congrArg Bool.not (decide_eq_true c6)))] (by kernel_rfl)
        · have h := h.2 c6
          have e1 := h
          exact callC_out (Sub.int_eq e1) [kc [] hz0, kf (Eq.refl false), kf hz1, kf hz2, kc [] hz3, kf (Eq.refl false), kc [] hz4, kf (Eq.refl false), ko (Orc.mget (AV.agg [int 1, fnV 117]) true), kp hz5, kf (Eq.refl false), kf hz6, kf (decide_eq_false c4), kc [] hz7, kf hz8, kc [] hz9, kc [] hz10, kt (show (!decide (restO o 2 = zop)) = true from (congrArg Bool.not (decide_eq_false c6)))] (by kernel_rfl)
      · have h := h.2 c5
        have e1 := h
        exact callC_out (Sub.int_eq e1) [kc [] hz0, kf (Eq.refl false), kf hz1, kf hz2, kc [] hz3, kf (Eq.refl false), kc [] hz4, kf (Eq.refl false), ko (Orc.mget (AV.agg [int 1, fnV 117]) true), kp hz5, kf (Eq.refl false), kf hz6, kf (decide_eq_false c4), kc [] hz7, kt (show (!b) = true from (congrArg Bool.not (c5))), kt (Eq.refl true)] (by kernel_rfl)
  · have h := h.2 c3
    have e1 := h
    exact callC_out (Sub.int_eq e1) [kc [] hz0, kf (Eq.refl false), kf hz1, kf hz2, kc [] hz3, kf (Eq.refl false), kc [] hz4, kf (Eq.refl false), ko (Orc.mget (AV.agg [int 1, fnV 117]) true), kp hz5, kf (Eq.refl false), kt (show (OP.pk o != 1) = true from (congrArg Bool.not (beq_eq_false_iff_ne.2 c3))), kt (Eq.refl true), kt (Eq.refl true), kt (Eq.refl true)] (by kernel_rfl)


theorem chk3 (o : OP) (l : List D) (b : Bool) (v : Int) (hcx : o.cx.length ≤ 1000000000) (hw : CallC P G 27 [nilS, dot (o.dv, o.sq)] [] (.ret (.tup [vec l, int 0])) []) (ht : 1 ≤ o.tm) (ht2 : o.tm ≤ 1099511627776) (hv : CallC P G 25 [vec o.cx] [] (.ret (int 0)) []) (hc : CallC P G 26 [vec o.cx, dot (o.dv, o.sq)] [] (.ret (bool false)) []) (hk : CallC P G 119 [opk o 3] [] (.ret (bool b)) []) (hr : CallC P G 32 [opk o 3] [] (.ret (op (restO o 3))) []) (hs : CallC P G 16 [op (restO o 3), op zop] [] (.ret (bool (decide (restO o 3 = zop)))) []) (h : (((OP.pk o = (2 : Int)) → ((((↑(ByteArray.size (OP.pn o)) : Int) > (64 : Int)) → (170 : Int) = (v)) ∧ ((¬(↑(ByteArray.size (OP.pn o)) : Int) > (64 : Int)) → ((((b) = true) → (((restO o 3 = zop) → (0 : Int) = (v)) ∧ ((¬restO o 3 = zop) → (170 : Int) = (v)))) ∧ (((b) = false) → (170 : Int) = (v)))))) ∧ ((¬OP.pk o = (2 : Int)) → (170 : Int) = (v)))) : CallC P G 12 [opk o 3] [] (AOut.ret (int v)) [] := by
  have hz0 := (@hw )
  have hz1 : decide (OP.tm o < (1 : Int)) = false := (decide_eq_false (by omega))
  have hz2 : decide (OP.tm o > (1099511627776 : Int)) = false := (decide_eq_false (by omega))
  have hz3 := (@hv )
  have hz4 := (@hc )
  have hz5 := (@Go.Ops.kg3 )
  have hz7 := (@hk )
  have hz9 := (@hr )
  have hz10 : CallC P G 16 [AV.agg [int (OP.dv (restO o 3)), int (OP.sq (restO o 3)), int (OP.tm (restO o 3)), AV.sl 2 false [], int (OP.pk (restO o 3)), str (OP.pn (restO o 3)), int (OP.kd (restO o 3)), int (OP.f1 (restO o 3)), int (OP.f2 (restO o 3)), int (OP.f3 (restO o 3)), int (OP.t1 (restO o 3)), int (OP.t2 (restO o 3)), int (OP.t3 (restO o 3)), str (OP.ky (restO o 3)), str (OP.vl (restO o 3)), int (OP.n (restO o 3)), Am.bool (OP.on (restO o 3))], AV.agg [int 0, int 0, int 0, nilS, int 0, str { data := #[] }, int 0, int 0, int 0, int 0, int 0, int 0, int 0, str { data := #[] }, str { data := #[] }, int 0, Am.bool false]] [] (AOut.ret (Am.bool (decide (restO o 3 = zop)))) [] := (CallC.args' (@hs ) ⟨Sub.refl _, Sub.aggs ⟨Sub.refl _, Sub.refl _, Sub.refl _, Sub.nil _, Sub.refl _, Sub.refl _, Sub.refl _, Sub.refl _, Sub.refl _, Sub.refl _, Sub.refl _, Sub.refl _, Sub.refl _, Sub.refl _, Sub.refl _, Sub.refl _, Sub.refl _, trivial⟩, trivial⟩)
  by_cases c3 : (OP.pk o = (2 : Int))
  · have h := h.1 c3
    have hz6 : (OP.pk o != 2) = false := (congrArg Bool.not (beq_iff_eq.2 c3))
    by_cases c4 : ((↑(ByteArray.size (OP.pn o)) : Int) > (64 : Int))
    · have h := h.1 c4
      have e1 := h
      exact callC_out (Sub.int_eq e1) [kc [] hz0, kf (Eq.refl false), kf hz1, kf hz2, kc [] hz3, kf (Eq.refl false), kc [] hz4, kf (Eq.refl false), ko (Orc.mget (AV.agg [int 2, fnV 119]) true), kp hz5, kf (Eq.refl false), kf hz6, kt (decide_eq_true c4), kt (Eq.refl true), kt (Eq.refl true)] (by kernel_rfl)
    · have h := h.2 c4
      rcases Bool.eq_false_or_eq_true ((b)) with c5 | c5
      · have h := h.1 c5
        have hz8 : (!b) = false := (congrArg Bool.not (c5))
        by_cases c6 : (restO o 3 = zop)
        · have h := h.1 c6
          have e1 := h
          exact callC_out (Sub.int_eq e1) [kc [] hz0, kf (Eq.refl false), kf hz1, kf hz2, kc [] hz3, kf (Eq.refl false), kc [] hz4, kf (Eq.refl false), ko (Orc.mget (AV.agg [int 2, fnV 119]) true), kp hz5, kf (Eq.refl false), kf hz6, kf (decide_eq_false c4), kc [] hz7, kf hz8, kc [] hz9, kc [] hz10, kf (show (!decide (restO o 3 = zop)) = false from (congrArg Bool.not (decide_eq_true c6)))] (by kernel_rfl)
        · have h := h.2 c6
          have e1 := h
          exact callC_out (Sub.int_eq e1) [kc [] hz0, kf (Eq.refl false), kf hz1, kf hz2, kc [] hz3, kf (Eq.refl false), kc [] hz4, kf (Eq.refl false), ko (Orc.mget (AV.agg [int 2, fnV 119]) true), kp hz5, kf (Eq.refl false), kf hz6, kf (decide_eq_false c4), kc [] hz7, kf hz8, kc [] hz9, kc [] hz10, kt (show (!decide (restO o 3 = zop)) = true from (congrArg Bool.not (decide_eq_false c6)))] (by kernel_rfl)
      · have h := h.2 c5
        have e1 := h
        exact callC_out (Sub.int_eq e1) [kc [] hz0, kf (Eq.refl false), kf hz1, kf hz2, kc [] hz3, kf (Eq.refl false), kc [] hz4, kf (Eq.refl false), ko (Orc.mget (AV.agg [int 2, fnV 119]) true), kp hz5, kf (Eq.refl false), kf hz6, kf (decide_eq_false c4), kc [] hz7, kt (show (!b) = true from (congrArg Bool.not (c5))), kt (Eq.refl true)] (by kernel_rfl)
  · have h := h.2 c3
    have e1 := h
    exact callC_out (Sub.int_eq e1) [kc [] hz0, kf (Eq.refl false), kf hz1, kf hz2, kc [] hz3, kf (Eq.refl false), kc [] hz4, kf (Eq.refl false), ko (Orc.mget (AV.agg [int 2, fnV 119]) true), kp hz5, kf (Eq.refl false), kt (show (OP.pk o != 2) = true from (congrArg Bool.not (beq_eq_false_iff_ne.2 c3))), kt (Eq.refl true), kt (Eq.refl true), kt (Eq.refl true)] (by kernel_rfl)


theorem chk4 (o : OP) (l : List D) (b : Bool) (v : Int) (hcx : o.cx.length ≤ 1000000000) (hw : CallC P G 27 [nilS, dot (o.dv, o.sq)] [] (.ret (.tup [vec l, int 0])) []) (ht : 1 ≤ o.tm) (ht2 : o.tm ≤ 1099511627776) (hv : CallC P G 25 [vec o.cx] [] (.ret (int 0)) []) (hc : CallC P G 26 [vec o.cx, dot (o.dv, o.sq)] [] (.ret (bool false)) []) (hk : CallC P G 120 [opk o 4] [] (.ret (bool b)) []) (hr : CallC P G 32 [opk o 4] [] (.ret (op (restO o 4))) []) (hs : CallC P G 16 [op (restO o 4), op zop] [] (.ret (bool (decide (restO o 4 = zop)))) []) (h : (((OP.pk o = (2 : Int)) → ((((↑(ByteArray.size (OP.pn o)) : Int) > (64 : Int)) → (170 : Int) = (v)) ∧ ((¬(↑(ByteArray.size (OP.pn o)) : Int) > (64 : Int)) → ((((b) = true) → (((restO o 4 = zop) → (0 : Int) = (v)) ∧ ((¬restO o 4 = zop) → (170 : Int) = (v)))) ∧ (((b) = false) → (170 : Int) = (v)))))) ∧ ((¬OP.pk o = (2 : Int)) → (170 : Int) = (v)))) : CallC P G 12 [opk o 4] [] (AOut.ret (int v)) [] := by
  have hz0 := (@hw )
  have hz1 : decide (OP.tm o < (1 : Int)) = false := (decide_eq_false (by omega))
  have hz2 : decide (OP.tm o > (1099511627776 : Int)) = false := (decide_eq_false (by omega))
  have hz3 := (@hv )
  have hz4 := (@hc )
  have hz5 := (@Go.Ops.kg4 )
  have hz7 := (@hk )
  have hz9 := (@hr )
  have hz10 : CallC P G 16 [AV.agg [int (OP.dv (restO o 4)), int (OP.sq (restO o 4)), int (OP.tm (restO o 4)), AV.sl 2 false [], int (OP.pk (restO o 4)), str (OP.pn (restO o 4)), int (OP.kd (restO o 4)), int (OP.f1 (restO o 4)), int (OP.f2 (restO o 4)), int (OP.f3 (restO o 4)), int (OP.t1 (restO o 4)), int (OP.t2 (restO o 4)), int (OP.t3 (restO o 4)), str (OP.ky (restO o 4)), str (OP.vl (restO o 4)), int (OP.n (restO o 4)), Am.bool (OP.on (restO o 4))], AV.agg [int 0, int 0, int 0, nilS, int 0, str { data := #[] }, int 0, int 0, int 0, int 0, int 0, int 0, int 0, str { data := #[] }, str { data := #[] }, int 0, Am.bool false]] [] (AOut.ret (Am.bool (decide (restO o 4 = zop)))) [] := (CallC.args' (@hs ) ⟨Sub.refl _, Sub.aggs ⟨Sub.refl _, Sub.refl _, Sub.refl _, Sub.nil _, Sub.refl _, Sub.refl _, Sub.refl _, Sub.refl _, Sub.refl _, Sub.refl _, Sub.refl _, Sub.refl _, Sub.refl _, Sub.refl _, Sub.refl _, Sub.refl _, Sub.refl _, trivial⟩, trivial⟩)
  by_cases c3 : (OP.pk o = (2 : Int))
  · have h := h.1 c3
    have hz6 : (OP.pk o != 2) = false := (congrArg Bool.not (beq_iff_eq.2 c3))
    by_cases c4 : ((↑(ByteArray.size (OP.pn o)) : Int) > (64 : Int))
    · have h := h.1 c4
      have e1 := h
      exact callC_out (Sub.int_eq e1) [kc [] hz0, kf (Eq.refl false), kf hz1, kf hz2, kc [] hz3, kf (Eq.refl false), kc [] hz4, kf (Eq.refl false), ko (Orc.mget (AV.agg [int 2, fnV 120]) true), kp hz5, kf (Eq.refl false), kf hz6, kt (decide_eq_true c4), kt (Eq.refl true), kt (Eq.refl true)] (by kernel_rfl)
    · have h := h.2 c4
      rcases Bool.eq_false_or_eq_true ((b)) with c5 | c5
      · have h := h.1 c5
        have hz8 : (!b) = false := (congrArg Bool.not (c5))
        by_cases c6 : (restO o 4 = zop)
        · have h := h.1 c6
          have e1 := h
          exact callC_out (Sub.int_eq e1) [kc [] hz0, kf (Eq.refl false), kf hz1, kf hz2, kc [] hz3, kf (Eq.refl false), kc [] hz4, kf (Eq.refl false), ko (Orc.mget (AV.agg [int 2, fnV 120]) true), kp hz5, kf (Eq.refl false), kf hz6, kf (decide_eq_false c4), kc [] hz7, kf hz8, kc [] hz9, kc [] hz10, kf (show (!decide (restO o 4 = zop)) = false from (congrArg Bool.not (decide_eq_true c6)))] (by kernel_rfl)
        · have h := h.2 c6
          have e1 := h
          exact callC_out (Sub.int_eq e1) [kc [] hz0, kf (Eq.refl false), kf hz1, kf hz2, kc [] hz3, kf (Eq.refl false), kc [] hz4, kf (Eq.refl false), ko (Orc.mget (AV.agg [int 2, fnV 120]) true), kp hz5, kf (Eq.refl false), kf hz6, kf (decide_eq_false c4), kc [] hz7, kf hz8, kc [] hz9, kc [] hz10, kt (show (!decide (restO o 4 = zop)) = true from (congrArg Bool.not (decide_eq_false c6)))] (by kernel_rfl)
      · have h := h.2 c5
        have e1 := h
        exact callC_out (Sub.int_eq e1) [kc [] hz0, kf (Eq.refl false), kf hz1, kf hz2, kc [] hz3, kf (Eq.refl false), kc [] hz4, kf (Eq.refl false), ko (Orc.mget (AV.agg [int 2, fnV 120]) true), kp hz5, kf (Eq.refl false), kf hz6, kf (decide_eq_false c4), kc [] hz7, kt (show (!b) = true from (congrArg Bool.not (c5))), kt (Eq.refl true)] (by kernel_rfl)
  · have h := h.2 c3
    have e1 := h
    exact callC_out (Sub.int_eq e1) [kc [] hz0, kf (Eq.refl false), kf hz1, kf hz2, kc [] hz3, kf (Eq.refl false), kc [] hz4, kf (Eq.refl false), ko (Orc.mget (AV.agg [int 2, fnV 120]) true), kp hz5, kf (Eq.refl false), kt (show (OP.pk o != 2) = true from (congrArg Bool.not (beq_eq_false_iff_ne.2 c3))), kt (Eq.refl true), kt (Eq.refl true), kt (Eq.refl true)] (by kernel_rfl)


theorem chk5 (o : OP) (l : List D) (b : Bool) (v : Int) (hcx : o.cx.length ≤ 1000000000) (hw : CallC P G 27 [nilS, dot (o.dv, o.sq)] [] (.ret (.tup [vec l, int 0])) []) (ht : 1 ≤ o.tm) (ht2 : o.tm ≤ 1099511627776) (hv : CallC P G 25 [vec o.cx] [] (.ret (int 0)) []) (hc : CallC P G 26 [vec o.cx, dot (o.dv, o.sq)] [] (.ret (bool false)) []) (hk : CallC P G 121 [opk o 5] [] (.ret (bool b)) []) (hr : CallC P G 32 [opk o 5] [] (.ret (op (restO o 5))) []) (hs : CallC P G 16 [op (restO o 5), op zop] [] (.ret (bool (decide (restO o 5 = zop)))) []) (h : (((OP.pk o = (3 : Int)) → ((((↑(ByteArray.size (OP.pn o)) : Int) > (64 : Int)) → (170 : Int) = (v)) ∧ ((¬(↑(ByteArray.size (OP.pn o)) : Int) > (64 : Int)) → ((((b) = true) → (((restO o 5 = zop) → (0 : Int) = (v)) ∧ ((¬restO o 5 = zop) → (170 : Int) = (v)))) ∧ (((b) = false) → (170 : Int) = (v)))))) ∧ ((¬OP.pk o = (3 : Int)) → (170 : Int) = (v)))) : CallC P G 12 [opk o 5] [] (AOut.ret (int v)) [] := by
  have hz0 := (@hw )
  have hz1 : decide (OP.tm o < (1 : Int)) = false := (decide_eq_false (by omega))
  have hz2 : decide (OP.tm o > (1099511627776 : Int)) = false := (decide_eq_false (by omega))
  have hz3 := (@hv )
  have hz4 := (@hc )
  have hz5 := (@Go.Ops.kg5 )
  have hz7 := (@hk )
  have hz9 := (@hr )
  have hz10 : CallC P G 16 [AV.agg [int (OP.dv (restO o 5)), int (OP.sq (restO o 5)), int (OP.tm (restO o 5)), AV.sl 2 false [], int (OP.pk (restO o 5)), str (OP.pn (restO o 5)), int (OP.kd (restO o 5)), int (OP.f1 (restO o 5)), int (OP.f2 (restO o 5)), int (OP.f3 (restO o 5)), int (OP.t1 (restO o 5)), int (OP.t2 (restO o 5)), int (OP.t3 (restO o 5)), str (OP.ky (restO o 5)), str (OP.vl (restO o 5)), int (OP.n (restO o 5)), Am.bool (OP.on (restO o 5))], AV.agg [int 0, int 0, int 0, nilS, int 0, str { data := #[] }, int 0, int 0, int 0, int 0, int 0, int 0, int 0, str { data := #[] }, str { data := #[] }, int 0, Am.bool false]] [] (AOut.ret (Am.bool (decide (restO o 5 = zop)))) [] := (CallC.args' (@hs ) ⟨Sub.refl _, Sub.aggs ⟨Sub.refl _, Sub.refl _, Sub.refl _, Sub.nil _, Sub.refl _, Sub.refl _, Sub.refl _, Sub.refl _, Sub.refl _, Sub.refl _, Sub.refl _, Sub.refl _, Sub.refl _, Sub.refl _, Sub.refl _, Sub.refl _, Sub.refl _, trivial⟩, trivial⟩)
  by_cases c3 : (OP.pk o = (3 : Int))
  · have h := h.1 c3
    have hz6 : (OP.pk o != 3) = false := (congrArg Bool.not (beq_iff_eq.2 c3))
    by_cases c4 : ((↑(ByteArray.size (OP.pn o)) : Int) > (64 : Int))
    · have h := h.1 c4
      have e1 := h
      exact callC_out (Sub.int_eq e1) [kc [] hz0, kf (Eq.refl false), kf hz1, kf hz2, kc [] hz3, kf (Eq.refl false), kc [] hz4, kf (Eq.refl false), ko (Orc.mget (AV.agg [int 3, fnV 121]) true), kp hz5, kf (Eq.refl false), kf hz6, kt (decide_eq_true c4), kt (Eq.refl true), kt (Eq.refl true)] (by kernel_rfl)
    · have h := h.2 c4
      rcases Bool.eq_false_or_eq_true ((b)) with c5 | c5
      · have h := h.1 c5
        have hz8 : (!b) = false := (congrArg Bool.not (c5))
        by_cases c6 : (restO o 5 = zop)
        · have h := h.1 c6
          have e1 := h
          exact callC_out (Sub.int_eq e1) [kc [] hz0, kf (Eq.refl false), kf hz1, kf hz2, kc [] hz3, kf (Eq.refl false), kc [] hz4, kf (Eq.refl false), ko (Orc.mget (AV.agg [int 3, fnV 121]) true), kp hz5, kf (Eq.refl false), kf hz6, kf (decide_eq_false c4), kc [] hz7, kf hz8, kc [] hz9, kc [] hz10, kf (show (!decide (restO o 5 = zop)) = false from (congrArg Bool.not (decide_eq_true c6)))] (by kernel_rfl)
        · have h := h.2 c6
          have e1 := h
          exact callC_out (Sub.int_eq e1) [kc [] hz0, kf (Eq.refl false), kf hz1, kf hz2, kc [] hz3, kf (Eq.refl false), kc [] hz4, kf (Eq.refl false), ko (Orc.mget (AV.agg [int 3, fnV 121]) true), kp hz5, kf (Eq.refl false), kf hz6, kf (decide_eq_false c4), kc [] hz7, kf hz8, kc [] hz9, kc [] hz10, kt (show (!decide (restO o 5 = zop)) = true from (congrArg Bool.not (decide_eq_false c6)))] (by kernel_rfl)
      · have h := h.2 c5
        have e1 := h
        exact callC_out (Sub.int_eq e1) [kc [] hz0, kf (Eq.refl false), kf hz1, kf hz2, kc [] hz3, kf (Eq.refl false), kc [] hz4, kf (Eq.refl false), ko (Orc.mget (AV.agg [int 3, fnV 121]) true), kp hz5, kf (Eq.refl false), kf hz6, kf (decide_eq_false c4), kc [] hz7, kt (show (!b) = true from (congrArg Bool.not (c5))), kt (Eq.refl true)] (by kernel_rfl)
  · have h := h.2 c3
    have e1 := h
    exact callC_out (Sub.int_eq e1) [kc [] hz0, kf (Eq.refl false), kf hz1, kf hz2, kc [] hz3, kf (Eq.refl false), kc [] hz4, kf (Eq.refl false), ko (Orc.mget (AV.agg [int 3, fnV 121]) true), kp hz5, kf (Eq.refl false), kt (show (OP.pk o != 3) = true from (congrArg Bool.not (beq_eq_false_iff_ne.2 c3))), kt (Eq.refl true), kt (Eq.refl true), kt (Eq.refl true)] (by kernel_rfl)


theorem chk6 (o : OP) (l : List D) (b : Bool) (v : Int) (hcx : o.cx.length ≤ 1000000000) (hw : CallC P G 27 [nilS, dot (o.dv, o.sq)] [] (.ret (.tup [vec l, int 0])) []) (ht : 1 ≤ o.tm) (ht2 : o.tm ≤ 1099511627776) (hv : CallC P G 25 [vec o.cx] [] (.ret (int 0)) []) (hc : CallC P G 26 [vec o.cx, dot (o.dv, o.sq)] [] (.ret (bool false)) []) (hk : CallC P G 122 [opk o 6] [] (.ret (bool b)) []) (hr : CallC P G 32 [opk o 6] [] (.ret (op (restO o 6))) []) (hs : CallC P G 16 [op (restO o 6), op zop] [] (.ret (bool (decide (restO o 6 = zop)))) []) (h : (((OP.pk o = (4 : Int)) → ((((↑(ByteArray.size (OP.pn o)) : Int) > (64 : Int)) → (170 : Int) = (v)) ∧ ((¬(↑(ByteArray.size (OP.pn o)) : Int) > (64 : Int)) → ((((b) = true) → (((restO o 6 = zop) → (0 : Int) = (v)) ∧ ((¬restO o 6 = zop) → (170 : Int) = (v)))) ∧ (((b) = false) → (170 : Int) = (v)))))) ∧ ((¬OP.pk o = (4 : Int)) → (170 : Int) = (v)))) : CallC P G 12 [opk o 6] [] (AOut.ret (int v)) [] := by
  have hz0 := (@hw )
  have hz1 : decide (OP.tm o < (1 : Int)) = false := (decide_eq_false (by omega))
  have hz2 : decide (OP.tm o > (1099511627776 : Int)) = false := (decide_eq_false (by omega))
  have hz3 := (@hv )
  have hz4 := (@hc )
  have hz5 := (@Go.Ops.kg6 )
  have hz7 := (@hk )
  have hz9 := (@hr )
  have hz10 : CallC P G 16 [AV.agg [int (OP.dv (restO o 6)), int (OP.sq (restO o 6)), int (OP.tm (restO o 6)), AV.sl 2 false [], int (OP.pk (restO o 6)), str (OP.pn (restO o 6)), int (OP.kd (restO o 6)), int (OP.f1 (restO o 6)), int (OP.f2 (restO o 6)), int (OP.f3 (restO o 6)), int (OP.t1 (restO o 6)), int (OP.t2 (restO o 6)), int (OP.t3 (restO o 6)), str (OP.ky (restO o 6)), str (OP.vl (restO o 6)), int (OP.n (restO o 6)), Am.bool (OP.on (restO o 6))], AV.agg [int 0, int 0, int 0, nilS, int 0, str { data := #[] }, int 0, int 0, int 0, int 0, int 0, int 0, int 0, str { data := #[] }, str { data := #[] }, int 0, Am.bool false]] [] (AOut.ret (Am.bool (decide (restO o 6 = zop)))) [] := (CallC.args' (@hs ) ⟨Sub.refl _, Sub.aggs ⟨Sub.refl _, Sub.refl _, Sub.refl _, Sub.nil _, Sub.refl _, Sub.refl _, Sub.refl _, Sub.refl _, Sub.refl _, Sub.refl _, Sub.refl _, Sub.refl _, Sub.refl _, Sub.refl _, Sub.refl _, Sub.refl _, Sub.refl _, trivial⟩, trivial⟩)
  by_cases c3 : (OP.pk o = (4 : Int))
  · have h := h.1 c3
    have hz6 : (OP.pk o != 4) = false := (congrArg Bool.not (beq_iff_eq.2 c3))
    by_cases c4 : ((↑(ByteArray.size (OP.pn o)) : Int) > (64 : Int))
    · have h := h.1 c4
      have e1 := h
      exact callC_out (Sub.int_eq e1) [kc [] hz0, kf (Eq.refl false), kf hz1, kf hz2, kc [] hz3, kf (Eq.refl false), kc [] hz4, kf (Eq.refl false), ko (Orc.mget (AV.agg [int 4, fnV 122]) true), kp hz5, kf (Eq.refl false), kf hz6, kt (decide_eq_true c4), kt (Eq.refl true), kt (Eq.refl true)] (by kernel_rfl)
    · have h := h.2 c4
      rcases Bool.eq_false_or_eq_true ((b)) with c5 | c5
      · have h := h.1 c5
        have hz8 : (!b) = false := (congrArg Bool.not (c5))
        by_cases c6 : (restO o 6 = zop)
        · have h := h.1 c6
          have e1 := h
          exact callC_out (Sub.int_eq e1) [kc [] hz0, kf (Eq.refl false), kf hz1, kf hz2, kc [] hz3, kf (Eq.refl false), kc [] hz4, kf (Eq.refl false), ko (Orc.mget (AV.agg [int 4, fnV 122]) true), kp hz5, kf (Eq.refl false), kf hz6, kf (decide_eq_false c4), kc [] hz7, kf hz8, kc [] hz9, kc [] hz10, kf (show (!decide (restO o 6 = zop)) = false from (congrArg Bool.not (decide_eq_true c6)))] (by kernel_rfl)
        · have h := h.2 c6
          have e1 := h
          exact callC_out (Sub.int_eq e1) [kc [] hz0, kf (Eq.refl false), kf hz1, kf hz2, kc [] hz3, kf (Eq.refl false), kc [] hz4, kf (Eq.refl false), ko (Orc.mget (AV.agg [int 4, fnV 122]) true), kp hz5, kf (Eq.refl false), kf hz6, kf (decide_eq_false c4), kc [] hz7, kf hz8, kc [] hz9, kc [] hz10, kt (show (!decide (restO o 6 = zop)) = true from (congrArg Bool.not (decide_eq_false c6)))] (by kernel_rfl)
      · have h := h.2 c5
        have e1 := h
        exact callC_out (Sub.int_eq e1) [kc [] hz0, kf (Eq.refl false), kf hz1, kf hz2, kc [] hz3, kf (Eq.refl false), kc [] hz4, kf (Eq.refl false), ko (Orc.mget (AV.agg [int 4, fnV 122]) true), kp hz5, kf (Eq.refl false), kf hz6, kf (decide_eq_false c4), kc [] hz7, kt (show (!b) = true from (congrArg Bool.not (c5))), kt (Eq.refl true)] (by kernel_rfl)
  · have h := h.2 c3
    have e1 := h
    exact callC_out (Sub.int_eq e1) [kc [] hz0, kf (Eq.refl false), kf hz1, kf hz2, kc [] hz3, kf (Eq.refl false), kc [] hz4, kf (Eq.refl false), ko (Orc.mget (AV.agg [int 4, fnV 122]) true), kp hz5, kf (Eq.refl false), kt (show (OP.pk o != 4) = true from (congrArg Bool.not (beq_eq_false_iff_ne.2 c3))), kt (Eq.refl true), kt (Eq.refl true), kt (Eq.refl true)] (by kernel_rfl)


theorem chk7 (o : OP) (l : List D) (b : Bool) (v : Int) (hcx : o.cx.length ≤ 1000000000) (hw : CallC P G 27 [nilS, dot (o.dv, o.sq)] [] (.ret (.tup [vec l, int 0])) []) (ht : 1 ≤ o.tm) (ht2 : o.tm ≤ 1099511627776) (hv : CallC P G 25 [vec o.cx] [] (.ret (int 0)) []) (hc : CallC P G 26 [vec o.cx, dot (o.dv, o.sq)] [] (.ret (bool false)) []) (hk : CallC P G 123 [opk o 7] [] (.ret (bool b)) []) (hr : CallC P G 32 [opk o 7] [] (.ret (op (restO o 7))) []) (hs : CallC P G 16 [op (restO o 7), op zop] [] (.ret (bool (decide (restO o 7 = zop)))) []) (h : (((OP.pk o = (4 : Int)) → ((((↑(ByteArray.size (OP.pn o)) : Int) > (64 : Int)) → (170 : Int) = (v)) ∧ ((¬(↑(ByteArray.size (OP.pn o)) : Int) > (64 : Int)) → ((((b) = true) → (((restO o 7 = zop) → (0 : Int) = (v)) ∧ ((¬restO o 7 = zop) → (170 : Int) = (v)))) ∧ (((b) = false) → (170 : Int) = (v)))))) ∧ ((¬OP.pk o = (4 : Int)) → (170 : Int) = (v)))) : CallC P G 12 [opk o 7] [] (AOut.ret (int v)) [] := by
  have hz0 := (@hw )
  have hz1 : decide (OP.tm o < (1 : Int)) = false := (decide_eq_false (by omega))
  have hz2 : decide (OP.tm o > (1099511627776 : Int)) = false := (decide_eq_false (by omega))
  have hz3 := (@hv )
  have hz4 := (@hc )
  have hz5 := (@Go.Ops.kg7 )
  have hz7 := (@hk )
  have hz9 := (@hr )
  have hz10 : CallC P G 16 [AV.agg [int (OP.dv (restO o 7)), int (OP.sq (restO o 7)), int (OP.tm (restO o 7)), AV.sl 2 false [], int (OP.pk (restO o 7)), str (OP.pn (restO o 7)), int (OP.kd (restO o 7)), int (OP.f1 (restO o 7)), int (OP.f2 (restO o 7)), int (OP.f3 (restO o 7)), int (OP.t1 (restO o 7)), int (OP.t2 (restO o 7)), int (OP.t3 (restO o 7)), str (OP.ky (restO o 7)), str (OP.vl (restO o 7)), int (OP.n (restO o 7)), Am.bool (OP.on (restO o 7))], AV.agg [int 0, int 0, int 0, nilS, int 0, str { data := #[] }, int 0, int 0, int 0, int 0, int 0, int 0, int 0, str { data := #[] }, str { data := #[] }, int 0, Am.bool false]] [] (AOut.ret (Am.bool (decide (restO o 7 = zop)))) [] := (CallC.args' (@hs ) ⟨Sub.refl _, Sub.aggs ⟨Sub.refl _, Sub.refl _, Sub.refl _, Sub.nil _, Sub.refl _, Sub.refl _, Sub.refl _, Sub.refl _, Sub.refl _, Sub.refl _, Sub.refl _, Sub.refl _, Sub.refl _, Sub.refl _, Sub.refl _, Sub.refl _, Sub.refl _, trivial⟩, trivial⟩)
  by_cases c3 : (OP.pk o = (4 : Int))
  · have h := h.1 c3
    have hz6 : (OP.pk o != 4) = false := (congrArg Bool.not (beq_iff_eq.2 c3))
    by_cases c4 : ((↑(ByteArray.size (OP.pn o)) : Int) > (64 : Int))
    · have h := h.1 c4
      have e1 := h
      exact callC_out (Sub.int_eq e1) [kc [] hz0, kf (Eq.refl false), kf hz1, kf hz2, kc [] hz3, kf (Eq.refl false), kc [] hz4, kf (Eq.refl false), ko (Orc.mget (AV.agg [int 4, fnV 123]) true), kp hz5, kf (Eq.refl false), kf hz6, kt (decide_eq_true c4), kt (Eq.refl true), kt (Eq.refl true)] (by kernel_rfl)
    · have h := h.2 c4
      rcases Bool.eq_false_or_eq_true ((b)) with c5 | c5
      · have h := h.1 c5
        have hz8 : (!b) = false := (congrArg Bool.not (c5))
        by_cases c6 : (restO o 7 = zop)
        · have h := h.1 c6
          have e1 := h
          exact callC_out (Sub.int_eq e1) [kc [] hz0, kf (Eq.refl false), kf hz1, kf hz2, kc [] hz3, kf (Eq.refl false), kc [] hz4, kf (Eq.refl false), ko (Orc.mget (AV.agg [int 4, fnV 123]) true), kp hz5, kf (Eq.refl false), kf hz6, kf (decide_eq_false c4), kc [] hz7, kf hz8, kc [] hz9, kc [] hz10, kf (show (!decide (restO o 7 = zop)) = false from (congrArg Bool.not (decide_eq_true c6)))] (by kernel_rfl)
        · have h := h.2 c6
          have e1 := h
          exact callC_out (Sub.int_eq e1) [kc [] hz0, kf (Eq.refl false), kf hz1, kf hz2, kc [] hz3, kf (Eq.refl false), kc [] hz4, kf (Eq.refl false), ko (Orc.mget (AV.agg [int 4, fnV 123]) true), kp hz5, kf (Eq.refl false), kf hz6, kf (decide_eq_false c4), kc [] hz7, kf hz8, kc [] hz9, kc [] hz10, kt (show (!decide (restO o 7 = zop)) = true from (congrArg Bool.not (decide_eq_false c6)))] (by kernel_rfl)
      · have h := h.2 c5
        have e1 := h
        exact callC_out (Sub.int_eq e1) [kc [] hz0, kf (Eq.refl false), kf hz1, kf hz2, kc [] hz3, kf (Eq.refl false), kc [] hz4, kf (Eq.refl false), ko (Orc.mget (AV.agg [int 4, fnV 123]) true), kp hz5, kf (Eq.refl false), kf hz6, kf (decide_eq_false c4), kc [] hz7, kt (show (!b) = true from (congrArg Bool.not (c5))), kt (Eq.refl true)] (by kernel_rfl)
  · have h := h.2 c3
    have e1 := h
    exact callC_out (Sub.int_eq e1) [kc [] hz0, kf (Eq.refl false), kf hz1, kf hz2, kc [] hz3, kf (Eq.refl false), kc [] hz4, kf (Eq.refl false), ko (Orc.mget (AV.agg [int 4, fnV 123]) true), kp hz5, kf (Eq.refl false), kt (show (OP.pk o != 4) = true from (congrArg Bool.not (beq_eq_false_iff_ne.2 c3))), kt (Eq.refl true), kt (Eq.refl true), kt (Eq.refl true)] (by kernel_rfl)


theorem chk8 (o : OP) (l : List D) (b : Bool) (v : Int) (hcx : o.cx.length ≤ 1000000000) (hw : CallC P G 27 [nilS, dot (o.dv, o.sq)] [] (.ret (.tup [vec l, int 0])) []) (ht : 1 ≤ o.tm) (ht2 : o.tm ≤ 1099511627776) (hv : CallC P G 25 [vec o.cx] [] (.ret (int 0)) []) (hc : CallC P G 26 [vec o.cx, dot (o.dv, o.sq)] [] (.ret (bool false)) []) (hk : CallC P G 124 [opk o 8] [] (.ret (bool b)) []) (hr : CallC P G 32 [opk o 8] [] (.ret (op (restO o 8))) []) (hs : CallC P G 16 [op (restO o 8), op zop] [] (.ret (bool (decide (restO o 8 = zop)))) []) (h : (((OP.pk o = (4 : Int)) → ((((↑(ByteArray.size (OP.pn o)) : Int) > (64 : Int)) → (170 : Int) = (v)) ∧ ((¬(↑(ByteArray.size (OP.pn o)) : Int) > (64 : Int)) → ((((b) = true) → (((restO o 8 = zop) → (0 : Int) = (v)) ∧ ((¬restO o 8 = zop) → (170 : Int) = (v)))) ∧ (((b) = false) → (170 : Int) = (v)))))) ∧ ((¬OP.pk o = (4 : Int)) → (170 : Int) = (v)))) : CallC P G 12 [opk o 8] [] (AOut.ret (int v)) [] := by
  have hz0 := (@hw )
  have hz1 : decide (OP.tm o < (1 : Int)) = false := (decide_eq_false (by omega))
  have hz2 : decide (OP.tm o > (1099511627776 : Int)) = false := (decide_eq_false (by omega))
  have hz3 := (@hv )
  have hz4 := (@hc )
  have hz5 := (@Go.Ops.kg8 )
  have hz7 := (@hk )
  have hz9 := (@hr )
  have hz10 : CallC P G 16 [AV.agg [int (OP.dv (restO o 8)), int (OP.sq (restO o 8)), int (OP.tm (restO o 8)), AV.sl 2 false [], int (OP.pk (restO o 8)), str (OP.pn (restO o 8)), int (OP.kd (restO o 8)), int (OP.f1 (restO o 8)), int (OP.f2 (restO o 8)), int (OP.f3 (restO o 8)), int (OP.t1 (restO o 8)), int (OP.t2 (restO o 8)), int (OP.t3 (restO o 8)), str (OP.ky (restO o 8)), str (OP.vl (restO o 8)), int (OP.n (restO o 8)), Am.bool false], AV.agg [int 0, int 0, int 0, nilS, int 0, str { data := #[] }, int 0, int 0, int 0, int 0, int 0, int 0, int 0, str { data := #[] }, str { data := #[] }, int 0, Am.bool false]] [] (AOut.ret (Am.bool (decide (restO o 8 = zop)))) [] := (CallC.args' (@hs ) ⟨Sub.refl _, Sub.aggs ⟨Sub.refl _, Sub.refl _, Sub.refl _, Sub.nil _, Sub.refl _, Sub.refl _, Sub.refl _, Sub.refl _, Sub.refl _, Sub.refl _, Sub.refl _, Sub.refl _, Sub.refl _, Sub.refl _, Sub.refl _, Sub.refl _, Sub.refl _, trivial⟩, trivial⟩)
  by_cases c3 : (OP.pk o = (4 : Int))
  · have h := h.1 c3
    have hz6 : (OP.pk o != 4) = false := (congrArg Bool.not (beq_iff_eq.2 c3))
    by_cases c4 : ((↑(ByteArray.size (OP.pn o)) : Int) > (64 : Int))
    · have h := h.1 c4
      have e1 := h
      exact callC_out (Sub.int_eq e1) [kc [] hz0, kf (Eq.refl false), kf hz1, kf hz2, kc [] hz3, kf (Eq.refl false), kc [] hz4, kf (Eq.refl false), ko (Orc.mget (AV.agg [int 4, fnV 124]) true), kp hz5, kf (Eq.refl false), kf hz6, kt (decide_eq_true c4), kt (Eq.refl true), kt (Eq.refl true)] (by kernel_rfl)
    · have h := h.2 c4
      rcases Bool.eq_false_or_eq_true ((b)) with c5 | c5
      · have h := h.1 c5
        have hz8 : (!b) = false := (congrArg Bool.not (c5))
        by_cases c6 : (restO o 8 = zop)
        · have h := h.1 c6
          have e1 := h
          exact callC_out (Sub.int_eq e1) [kc [] hz0, kf (Eq.refl false), kf hz1, kf hz2, kc [] hz3, kf (Eq.refl false), kc [] hz4, kf (Eq.refl false), ko (Orc.mget (AV.agg [int 4, fnV 124]) true), kp hz5, kf (Eq.refl false), kf hz6, kf (decide_eq_false c4), kc [] hz7, kf hz8, kc [] hz9, kc [] hz10, kf (show (!decide (restO o 8 = zop)) = false from (congrArg Bool.not (decide_eq_true c6)))] (by kernel_rfl)
        · have h := h.2 c6
          have e1 := h
          exact callC_out (Sub.int_eq e1) [kc [] hz0, kf (Eq.refl false), kf hz1, kf hz2, kc [] hz3, kf (Eq.refl false), kc [] hz4, kf (Eq.refl false), ko (Orc.mget (AV.agg [int 4, fnV 124]) true), kp hz5, kf (Eq.refl false), kf hz6, kf (decide_eq_false c4), kc [] hz7, kf hz8, kc [] hz9, kc [] hz10, kt (show (!decide (restO o 8 = zop)) = true from (congrArg Bool.not (decide_eq_false c6)))] (by kernel_rfl)
      · have h := h.2 c5
        have e1 := h
        exact callC_out (Sub.int_eq e1) [kc [] hz0, kf (Eq.refl false), kf hz1, kf hz2, kc [] hz3, kf (Eq.refl false), kc [] hz4, kf (Eq.refl false), ko (Orc.mget (AV.agg [int 4, fnV 124]) true), kp hz5, kf (Eq.refl false), kf hz6, kf (decide_eq_false c4), kc [] hz7, kt (show (!b) = true from (congrArg Bool.not (c5))), kt (Eq.refl true)] (by kernel_rfl)
  · have h := h.2 c3
    have e1 := h
    exact callC_out (Sub.int_eq e1) [kc [] hz0, kf (Eq.refl false), kf hz1, kf hz2, kc [] hz3, kf (Eq.refl false), kc [] hz4, kf (Eq.refl false), ko (Orc.mget (AV.agg [int 4, fnV 124]) true), kp hz5, kf (Eq.refl false), kt (show (OP.pk o != 4) = true from (congrArg Bool.not (beq_eq_false_iff_ne.2 c3))), kt (Eq.refl true), kt (Eq.refl true), kt (Eq.refl true)] (by kernel_rfl)


end Go.Ops

/- OPS, 4: the reference's Check. -/
namespace Go.Ops
set_option maxRecDepth 100000
set_option linter.unusedSimpArgs false
set_option linter.unusedVariables false
open Go Go.Am Go.Proofs Go.Seat Go.Vec Go.Cdc

theorem part_w (k v : Int) (h : (((k = (1 : Int)) → (1 : Int) = (v)) ∧ ((¬k = (1 : Int)) → (((k = (2 : Int)) → (1 : Int) = (v)) ∧ ((¬k = (2 : Int)) → (((k = (3 : Int)) → (2 : Int) = (v)) ∧ ((¬k = (3 : Int)) → (((k = (4 : Int)) → (2 : Int) = (v)) ∧ ((¬k = (4 : Int)) → (((k = (5 : Int)) → (3 : Int) = (v)) ∧ ((¬k = (5 : Int)) → (((k = (6 : Int)) → (4 : Int) = (v)) ∧ ((¬k = (6 : Int)) → (((k = (7 : Int)) → (4 : Int) = (v)) ∧ ((¬k = (7 : Int)) → (((k = (8 : Int)) → (4 : Int) = (v)) ∧ ((¬k = (8 : Int)) → (0 : Int) = (v)))))))))))))))))) : CallC P G 36 [int k] [] (AOut.ret (int v)) [] := by
  by_cases c1 : (k = (1 : Int))
  · have h := h.1 c1
    have e1 := h
    exact callC_out (Sub.int_eq e1) [kt (beq_iff_eq.2 c1), kt (beq_iff_eq.2 c1)] (by kernel_rfl)
  · have h := h.2 c1
    by_cases c2 : (k = (2 : Int))
    · have h := h.1 c2
      have e1 := h
      exact callC_out (Sub.int_eq e1) [kf (beq_eq_false_iff_ne.2 c1), kt (beq_iff_eq.2 c2)] (by kernel_rfl)
    · have h := h.2 c2
      by_cases c3 : (k = (3 : Int))
      · have h := h.1 c3
        have e1 := h
        exact callC_out (Sub.int_eq e1) [kf (beq_eq_false_iff_ne.2 c1), kf (beq_eq_false_iff_ne.2 c2), kt (beq_iff_eq.2 c3), kt (beq_iff_eq.2 c3)] (by kernel_rfl)
      · have h := h.2 c3
        by_cases c4 : (k = (4 : Int))
        · have h := h.1 c4
          have e1 := h
          exact callC_out (Sub.int_eq e1) [kf (beq_eq_false_iff_ne.2 c1), kf (beq_eq_false_iff_ne.2 c2), kf (beq_eq_false_iff_ne.2 c3), kt (beq_iff_eq.2 c4)] (by kernel_rfl)
        · have h := h.2 c4
          by_cases c5 : (k = (5 : Int))
          · have h := h.1 c5
            have e1 := h
            exact callC_out (Sub.int_eq e1) [kf (beq_eq_false_iff_ne.2 c1), kf (beq_eq_false_iff_ne.2 c2), kf (beq_eq_false_iff_ne.2 c3), kf (beq_eq_false_iff_ne.2 c4), kt (beq_iff_eq.2 c5)] (by kernel_rfl)
          · have h := h.2 c5
            by_cases c6 : (k = (6 : Int))
            · have h := h.1 c6
              have e1 := h
              exact callC_out (Sub.int_eq e1) [kf (beq_eq_false_iff_ne.2 c1), kf (beq_eq_false_iff_ne.2 c2), kf (beq_eq_false_iff_ne.2 c3), kf (beq_eq_false_iff_ne.2 c4), kf (beq_eq_false_iff_ne.2 c5), kt (beq_iff_eq.2 c6), kt (beq_iff_eq.2 c6)] (by kernel_rfl)
            · have h := h.2 c6
              by_cases c7 : (k = (7 : Int))
              · have h := h.1 c7
                have e1 := h
                exact callC_out (Sub.int_eq e1) [kf (beq_eq_false_iff_ne.2 c1), kf (beq_eq_false_iff_ne.2 c2), kf (beq_eq_false_iff_ne.2 c3), kf (beq_eq_false_iff_ne.2 c4), kf (beq_eq_false_iff_ne.2 c5), kf (beq_eq_false_iff_ne.2 c6), kt (beq_iff_eq.2 c7), kt (beq_iff_eq.2 c7)] (by kernel_rfl)
              · have h := h.2 c7
                by_cases c8 : (k = (8 : Int))
                · have h := h.1 c8
                  have e1 := h
                  exact callC_out (Sub.int_eq e1) [kf (beq_eq_false_iff_ne.2 c1), kf (beq_eq_false_iff_ne.2 c2), kf (beq_eq_false_iff_ne.2 c3), kf (beq_eq_false_iff_ne.2 c4), kf (beq_eq_false_iff_ne.2 c5), kf (beq_eq_false_iff_ne.2 c6), kf (beq_eq_false_iff_ne.2 c7), kt (beq_iff_eq.2 c8)] (by kernel_rfl)
                · have h := h.2 c8
                  have e1 := h
                  exact callC_out (Sub.int_eq e1) [kf (beq_eq_false_iff_ne.2 c1), kf (beq_eq_false_iff_ne.2 c2), kf (beq_eq_false_iff_ne.2 c3), kf (beq_eq_false_iff_ne.2 c4), kf (beq_eq_false_iff_ne.2 c5), kf (beq_eq_false_iff_ne.2 c6), kf (beq_eq_false_iff_ne.2 c7), kf (beq_eq_false_iff_ne.2 c8)] (by kernel_rfl)

theorem part_c (k : Int) : CallC P G 36 [int k] [] (.ret (int (partOf k))) [] := part_w k _ (by
  unfold partOf
  grind)

/-- An operation with the fields that its kind uses. -/
def usesO (o : OP) : Int → OP
  | 1 => { zop with dv := o.dv, sq := o.sq, tm := o.tm, cx := o.cx, pk := o.pk, pn := o.pn, kd := 1, f1 := o.f1, f2 := o.f2, f3 := o.f3, vl := o.vl }
  | 2 => { zop with dv := o.dv, sq := o.sq, tm := o.tm, cx := o.cx, pk := o.pk, pn := o.pn, kd := 2, f1 := o.f1, f2 := o.f2, f3 := o.f3 }
  | 3 => { zop with dv := o.dv, sq := o.sq, tm := o.tm, cx := o.cx, pk := o.pk, pn := o.pn, kd := 3, ky := o.ky, vl := o.vl }
  | 4 => { zop with dv := o.dv, sq := o.sq, tm := o.tm, cx := o.cx, pk := o.pk, pn := o.pn, kd := 4, ky := o.ky }
  | 5 => { zop with dv := o.dv, sq := o.sq, tm := o.tm, cx := o.cx, pk := o.pk, pn := o.pn, kd := 5, n := o.n }
  | 6 => { zop with dv := o.dv, sq := o.sq, tm := o.tm, cx := o.cx, pk := o.pk, pn := o.pn, kd := 6, f1 := o.f1, f2 := o.f2, f3 := o.f3, vl := o.vl }
  | 7 => { zop with dv := o.dv, sq := o.sq, tm := o.tm, cx := o.cx, pk := o.pk, pn := o.pn, kd := 7, f1 := o.f1, f2 := o.f2, f3 := o.f3, n := o.n }
  | _ => { zop with dv := o.dv, sq := o.sq, tm := o.tm, cx := o.cx, pk := o.pk, pn := o.pn, kd := 8, f1 := o.f1, f2 := o.f2, f3 := o.f3, t1 := o.t1, t2 := o.t2, t3 := o.t3, n := o.n, on := o.on }

theorem uses1_w (o : OP) (h : True) : CallC P G 38 [opk o 1] [] (AOut.ret (op (usesO o 1))) [] := by
  have _ := h
  exact callC_of [kt (Eq.refl true), kt (Eq.refl true)] (by kernel_rfl)

theorem rf1_w (o : OP) (v : Bool) (hc : o.cx.length ≤ 1000000000) (h3 : -9223372036854775808 ≤ o.f3 ∧ o.f3 < 9223372036854775808) (h : ((((OP.f1 o == 0 && (OP.f2 o == 0 && OP.f3 o == 0)) = true) → (decide ((↑(ByteArray.size (OP.vl o)) : Int) ≤ (4096 : Int))) = (v)) ∧ (((OP.f1 o == 0 && (OP.f2 o == 0 && OP.f3 o == 0)) = false) → ((((knowsB { dv := OP.dv o, sq := OP.sq o, tm := OP.tm o, cx := OP.cx o, pk := OP.pk o, pn := OP.pn o, kd := 1, f1 := OP.f1 o, f2 := OP.f2 o, f3 := OP.f3 o, t1 := OP.t1 o, t2 := OP.t2 o, t3 := OP.t3 o, ky := OP.ky o, vl := OP.vl o, n := OP.n o, on := OP.on o } (OP.f1 o) (OP.f2 o) (OP.f3 o)) = true) → (decide ((↑(ByteArray.size (OP.vl o)) : Int) ≤ (4096 : Int))) = (v)) ∧ (((knowsB { dv := OP.dv o, sq := OP.sq o, tm := OP.tm o, cx := OP.cx o, pk := OP.pk o, pn := OP.pn o, kd := 1, f1 := OP.f1 o, f2 := OP.f2 o, f3 := OP.f3 o, t1 := OP.t1 o, t2 := OP.t2 o, t3 := OP.t3 o, ky := OP.ky o, vl := OP.vl o, n := OP.n o, on := OP.on o } (OP.f1 o) (OP.f2 o) (OP.f3 o)) = false) → (false) = (v)))))) : CallC P G 37 [opk o 1] [] (AOut.ret (Am.bool v)) [] := by
  rcases Bool.eq_false_or_eq_true ((OP.f1 o == 0 && (OP.f2 o == 0 && OP.f3 o == 0))) with c1 | c1
  · have h := h.1 c1
    have e1 := h
    exact callC_out (Sub.bool_eq e1) [kt (Eq.refl true), kt c1, kt (Eq.refl true)] (by kernel_rfl)
  · have h := h.2 c1
    have hz0 := (@Go.Ops.rknows_c ({ dv := OP.dv o, sq := OP.sq o, tm := OP.tm o, cx := OP.cx o, pk := OP.pk o, pn := OP.pn o, kd := 1, f1 := OP.f1 o, f2 := OP.f2 o, f3 := OP.f3 o, t1 := OP.t1 o, t2 := OP.t2 o, t3 := OP.t3 o, ky := OP.ky o, vl := OP.vl o, n := OP.n o, on := OP.on o }) (OP.f1 o) (OP.f2 o) (OP.f3 o) (by omega))
    rcases Bool.eq_false_or_eq_true ((knowsB { dv := OP.dv o, sq := OP.sq o, tm := OP.tm o, cx := OP.cx o, pk := OP.pk o, pn := OP.pn o, kd := 1, f1 := OP.f1 o, f2 := OP.f2 o, f3 := OP.f3 o, t1 := OP.t1 o, t2 := OP.t2 o, t3 := OP.t3 o, ky := OP.ky o, vl := OP.vl o, n := OP.n o, on := OP.on o } (OP.f1 o) (OP.f2 o) (OP.f3 o))) with c2 | c2
    · have h := h.1 c2
      have e1 := h
      exact callC_out (Sub.bool_eq e1) [kt (Eq.refl true), kf c1, kc [] hz0, kt c2] (by kernel_rfl)
    · have h := h.2 c2
      have e1 := h
      exact callC_out (Sub.bool_eq e1) [kt (Eq.refl true), kf c1, kc [] hz0, kf c2] (by kernel_rfl)


theorem uses2_w (o : OP) (h : True) : CallC P G 38 [opk o 2] [] (AOut.ret (op (usesO o 2))) [] := by
  have _ := h
  exact callC_of [kf (Eq.refl false), kf (Eq.refl false), kt (Eq.refl true)] (by kernel_rfl)

theorem rf2_w (o : OP) (v : Bool) (hc : o.cx.length ≤ 1000000000) (h3 : -9223372036854775808 ≤ o.f3 ∧ o.f3 < 9223372036854775808) (h : (knowsB { dv := OP.dv o, sq := OP.sq o, tm := OP.tm o, cx := OP.cx o, pk := OP.pk o, pn := OP.pn o, kd := 2, f1 := OP.f1 o, f2 := OP.f2 o, f3 := OP.f3 o, t1 := OP.t1 o, t2 := OP.t2 o, t3 := OP.t3 o, ky := OP.ky o, vl := OP.vl o, n := OP.n o, on := OP.on o } (OP.f1 o) (OP.f2 o) (OP.f3 o)) = (v)) : CallC P G 37 [opk o 2] [] (AOut.ret (Am.bool v)) [] := by
  have e1 := h
  exact callC_out (Sub.bool_eq e1) [kf (Eq.refl false), kt (Eq.refl true), kc [] (@Go.Ops.rknows_c ({ dv := OP.dv o, sq := OP.sq o, tm := OP.tm o, cx := OP.cx o, pk := OP.pk o, pn := OP.pn o, kd := 2, f1 := OP.f1 o, f2 := OP.f2 o, f3 := OP.f3 o, t1 := OP.t1 o, t2 := OP.t2 o, t3 := OP.t3 o, ky := OP.ky o, vl := OP.vl o, n := OP.n o, on := OP.on o }) (OP.f1 o) (OP.f2 o) (OP.f3 o) (by omega))] (by kernel_rfl)


theorem uses3_w (o : OP) (h : True) : CallC P G 38 [opk o 3] [] (AOut.ret (op (usesO o 3))) [] := by
  have _ := h
  exact callC_of [kf (Eq.refl false), kf (Eq.refl false), kf (Eq.refl false), kt (Eq.refl true)] (by kernel_rfl)

theorem rf3_w (o : OP) (v : Bool) (hc : o.cx.length ≤ 1000000000) (h3 : -9223372036854775808 ≤ o.f3 ∧ o.f3 < 9223372036854775808) (h : ((((↑(ByteArray.size (OP.ky o)) : Int) ≤ (64 : Int)) → (decide ((↑(ByteArray.size (OP.vl o)) : Int) ≤ (4096 : Int))) = (v)) ∧ ((¬(↑(ByteArray.size (OP.ky o)) : Int) ≤ (64 : Int)) → (false) = (v)))) : CallC P G 37 [opk o 3] [] (AOut.ret (Am.bool v)) [] := by
  by_cases c1 : ((↑(ByteArray.size (OP.ky o)) : Int) ≤ (64 : Int))
  · have h := h.1 c1
    have e1 := h
    exact callC_out (Sub.bool_eq e1) [kf (Eq.refl false), kf (Eq.refl false), kt (Eq.refl true), kt (decide_eq_true c1)] (by kernel_rfl)
  · have h := h.2 c1
    have e1 := h
    exact callC_out (Sub.bool_eq e1) [kf (Eq.refl false), kf (Eq.refl false), kt (Eq.refl true), kf (decide_eq_false c1)] (by kernel_rfl)

theorem uses4_w (o : OP) (h : True) : CallC P G 38 [opk o 4] [] (AOut.ret (op (usesO o 4))) [] := by
  have _ := h
  exact callC_of [kf (Eq.refl false), kf (Eq.refl false), kf (Eq.refl false), kf (Eq.refl false), kt (Eq.refl true)] (by kernel_rfl)

theorem rf4_w (o : OP) (v : Bool) (hc : o.cx.length ≤ 1000000000) (h3 : -9223372036854775808 ≤ o.f3 ∧ o.f3 < 9223372036854775808) (h : (decide ((↑(ByteArray.size (OP.ky o)) : Int) ≤ (64 : Int))) = (v)) : CallC P G 37 [opk o 4] [] (AOut.ret (Am.bool v)) [] := by
  have e1 := h
  exact callC_out (Sub.bool_eq e1) [kf (Eq.refl false), kf (Eq.refl false), kf (Eq.refl false), kt (Eq.refl true)] (by kernel_rfl)

theorem uses5_w (o : OP) (h : True) : CallC P G 38 [opk o 5] [] (AOut.ret (op (usesO o 5))) [] := by
  have _ := h
  exact callC_of [kf (Eq.refl false), kf (Eq.refl false), kf (Eq.refl false), kf (Eq.refl false), kf (Eq.refl false), kt (Eq.refl true)] (by kernel_rfl)

theorem rf5_w (o : OP) (v : Bool) (hc : o.cx.length ≤ 1000000000) (h3 : -9223372036854775808 ≤ o.f3 ∧ o.f3 < 9223372036854775808) (h : (((OP.n o ≥ (-1125899906842624 : Int)) → (decide (OP.n o ≤ (1125899906842624 : Int))) = (v)) ∧ ((¬OP.n o ≥ (-1125899906842624 : Int)) → (false) = (v)))) : CallC P G 37 [opk o 5] [] (AOut.ret (Am.bool v)) [] := by
  by_cases c1 : (OP.n o ≥ (-1125899906842624 : Int))
  · have h := h.1 c1
    have e1 := h
    exact callC_out (Sub.bool_eq e1) [kf (Eq.refl false), kf (Eq.refl false), kf (Eq.refl false), kf (Eq.refl false), kt (Eq.refl true), kt (decide_eq_true c1)] (by kernel_rfl)
  · have h := h.2 c1
    have e1 := h
    exact callC_out (Sub.bool_eq e1) [kf (Eq.refl false), kf (Eq.refl false), kf (Eq.refl false), kf (Eq.refl false), kt (Eq.refl true), kf (decide_eq_false c1)] (by kernel_rfl)

theorem uses6_w (o : OP) (h : True) : CallC P G 38 [opk o 6] [] (AOut.ret (op (usesO o 6))) [] := by
  have _ := h
  exact callC_of [kf (Eq.refl false), kt (Eq.refl true)] (by kernel_rfl)

theorem rf6_w (o : OP) (v : Bool) (hc : o.cx.length ≤ 1000000000) (h3 : -9223372036854775808 ≤ o.f3 ∧ o.f3 < 9223372036854775808) (h : ((((OP.f1 o == 0 && (OP.f2 o == 0 && OP.f3 o == 0)) = true) → ((((↑(ByteArray.size (OP.vl o)) : Int) ≥ (1 : Int)) → (decide ((↑(ByteArray.size (OP.vl o)) : Int) ≤ (64 : Int))) = (v)) ∧ ((¬(↑(ByteArray.size (OP.vl o)) : Int) ≥ (1 : Int)) → (false) = (v)))) ∧ (((OP.f1 o == 0 && (OP.f2 o == 0 && OP.f3 o == 0)) = false) → ((((knowsB { dv := OP.dv o, sq := OP.sq o, tm := OP.tm o, cx := OP.cx o, pk := OP.pk o, pn := OP.pn o, kd := 6, f1 := OP.f1 o, f2 := OP.f2 o, f3 := OP.f3 o, t1 := OP.t1 o, t2 := OP.t2 o, t3 := OP.t3 o, ky := OP.ky o, vl := OP.vl o, n := OP.n o, on := OP.on o } (OP.f1 o) (OP.f2 o) (OP.f3 o)) = true) → ((((↑(ByteArray.size (OP.vl o)) : Int) ≥ (1 : Int)) → (decide ((↑(ByteArray.size (OP.vl o)) : Int) ≤ (64 : Int))) = (v)) ∧ ((¬(↑(ByteArray.size (OP.vl o)) : Int) ≥ (1 : Int)) → (false) = (v)))) ∧ (((knowsB { dv := OP.dv o, sq := OP.sq o, tm := OP.tm o, cx := OP.cx o, pk := OP.pk o, pn := OP.pn o, kd := 6, f1 := OP.f1 o, f2 := OP.f2 o, f3 := OP.f3 o, t1 := OP.t1 o, t2 := OP.t2 o, t3 := OP.t3 o, ky := OP.ky o, vl := OP.vl o, n := OP.n o, on := OP.on o } (OP.f1 o) (OP.f2 o) (OP.f3 o)) = false) → (false) = (v)))))) : CallC P G 37 [opk o 6] [] (AOut.ret (Am.bool v)) [] := by
  rcases Bool.eq_false_or_eq_true ((OP.f1 o == 0 && (OP.f2 o == 0 && OP.f3 o == 0))) with c1 | c1
  · have h := h.1 c1
    by_cases c2 : ((↑(ByteArray.size (OP.vl o)) : Int) ≥ (1 : Int))
    · have h := h.1 c2
      have e1 := h
      exact callC_out (Sub.bool_eq e1) [kf (Eq.refl false), kf (Eq.refl false), kf (Eq.refl false), kf (Eq.refl false), kf (Eq.refl false), kt (Eq.refl true), kt c1, kt (Eq.refl true), kt (decide_eq_true c2)] (by kernel_rfl)
    · have h := h.2 c2
      have e1 := h
      exact callC_out (Sub.bool_eq e1) [kf (Eq.refl false), kf (Eq.refl false), kf (Eq.refl false), kf (Eq.refl false), kf (Eq.refl false), kt (Eq.refl true), kt c1, kt (Eq.refl true), kf (decide_eq_false c2)] (by kernel_rfl)
  · have h := h.2 c1
    have hz0 := (@Go.Ops.rknows_c ({ dv := OP.dv o, sq := OP.sq o, tm := OP.tm o, cx := OP.cx o, pk := OP.pk o, pn := OP.pn o, kd := 6, f1 := OP.f1 o, f2 := OP.f2 o, f3 := OP.f3 o, t1 := OP.t1 o, t2 := OP.t2 o, t3 := OP.t3 o, ky := OP.ky o, vl := OP.vl o, n := OP.n o, on := OP.on o }) (OP.f1 o) (OP.f2 o) (OP.f3 o) (by omega))
    rcases Bool.eq_false_or_eq_true ((knowsB { dv := OP.dv o, sq := OP.sq o, tm := OP.tm o, cx := OP.cx o, pk := OP.pk o, pn := OP.pn o, kd := 6, f1 := OP.f1 o, f2 := OP.f2 o, f3 := OP.f3 o, t1 := OP.t1 o, t2 := OP.t2 o, t3 := OP.t3 o, ky := OP.ky o, vl := OP.vl o, n := OP.n o, on := OP.on o } (OP.f1 o) (OP.f2 o) (OP.f3 o))) with c3 | c3
    · have h := h.1 c3
      by_cases c4 : ((↑(ByteArray.size (OP.vl o)) : Int) ≥ (1 : Int))
      · have h := h.1 c4
        have e1 := h
        exact callC_out (Sub.bool_eq e1) [kf (Eq.refl false), kf (Eq.refl false), kf (Eq.refl false), kf (Eq.refl false), kf (Eq.refl false), kt (Eq.refl true), kf c1, kc [] hz0, kt c3, kt (decide_eq_true c4)] (by kernel_rfl)
      · have h := h.2 c4
        have e1 := h
        exact callC_out (Sub.bool_eq e1) [kf (Eq.refl false), kf (Eq.refl false), kf (Eq.refl false), kf (Eq.refl false), kf (Eq.refl false), kt (Eq.refl true), kf c1, kc [] hz0, kt c3, kf (decide_eq_false c4)] (by kernel_rfl)
    · have h := h.2 c3
      have e1 := h
      exact callC_out (Sub.bool_eq e1) [kf (Eq.refl false), kf (Eq.refl false), kf (Eq.refl false), kf (Eq.refl false), kf (Eq.refl false), kt (Eq.refl true), kf c1, kc [] hz0, kf c3, kf (Eq.refl false)] (by kernel_rfl)


theorem uses7_w (o : OP) (h : True) : CallC P G 38 [opk o 7] [] (AOut.ret (op (usesO o 7))) [] := by
  have _ := h
  exact callC_of [kf (Eq.refl false), kf (Eq.refl false), kf (Eq.refl false), kf (Eq.refl false), kf (Eq.refl false), kf (Eq.refl false), kt (Eq.refl true)] (by kernel_rfl)

theorem rf7_w (o : OP) (v : Bool) (hc : o.cx.length ≤ 1000000000) (h3 : -9223372036854775808 ≤ o.f3 ∧ o.f3 < 9223372036854775808) (h : ((((knowsB { dv := OP.dv o, sq := OP.sq o, tm := OP.tm o, cx := OP.cx o, pk := OP.pk o, pn := OP.pn o, kd := 7, f1 := OP.f1 o, f2 := OP.f2 o, f3 := OP.f3 o, t1 := OP.t1 o, t2 := OP.t2 o, t3 := OP.t3 o, ky := OP.ky o, vl := OP.vl o, n := OP.n o, on := OP.on o } (OP.f1 o) (OP.f2 o) (OP.f3 o)) = true) → (((OP.n o ≥ (1 : Int)) → (decide (OP.n o ≤ IntKind.wrap IntKind.i64 (64 - OP.f3 o))) = (v)) ∧ ((¬OP.n o ≥ (1 : Int)) → (false) = (v)))) ∧ (((knowsB { dv := OP.dv o, sq := OP.sq o, tm := OP.tm o, cx := OP.cx o, pk := OP.pk o, pn := OP.pn o, kd := 7, f1 := OP.f1 o, f2 := OP.f2 o, f3 := OP.f3 o, t1 := OP.t1 o, t2 := OP.t2 o, t3 := OP.t3 o, ky := OP.ky o, vl := OP.vl o, n := OP.n o, on := OP.on o } (OP.f1 o) (OP.f2 o) (OP.f3 o)) = false) → (false) = (v)))) : CallC P G 37 [opk o 7] [] (AOut.ret (Am.bool v)) [] := by
  have hz0 := (@Go.Ops.rknows_c ({ dv := OP.dv o, sq := OP.sq o, tm := OP.tm o, cx := OP.cx o, pk := OP.pk o, pn := OP.pn o, kd := 7, f1 := OP.f1 o, f2 := OP.f2 o, f3 := OP.f3 o, t1 := OP.t1 o, t2 := OP.t2 o, t3 := OP.t3 o, ky := OP.ky o, vl := OP.vl o, n := OP.n o, on := OP.on o }) (OP.f1 o) (OP.f2 o) (OP.f3 o) (by omega))
  rcases Bool.eq_false_or_eq_true ((knowsB { dv := OP.dv o, sq := OP.sq o, tm := OP.tm o, cx := OP.cx o, pk := OP.pk o, pn := OP.pn o, kd := 7, f1 := OP.f1 o, f2 := OP.f2 o, f3 := OP.f3 o, t1 := OP.t1 o, t2 := OP.t2 o, t3 := OP.t3 o, ky := OP.ky o, vl := OP.vl o, n := OP.n o, on := OP.on o } (OP.f1 o) (OP.f2 o) (OP.f3 o))) with c1 | c1
  · have h := h.1 c1
    by_cases c2 : (OP.n o ≥ (1 : Int))
    · have h := h.1 c2
      have e1 := h
      exact callC_out (Sub.bool_eq e1) [kf (Eq.refl false), kf (Eq.refl false), kf (Eq.refl false), kf (Eq.refl false), kf (Eq.refl false), kf (Eq.refl false), kt (Eq.refl true), kc [] hz0, kt c1, kt (decide_eq_true c2)] (by kernel_rfl)
    · have h := h.2 c2
      have e1 := h
      exact callC_out (Sub.bool_eq e1) [kf (Eq.refl false), kf (Eq.refl false), kf (Eq.refl false), kf (Eq.refl false), kf (Eq.refl false), kf (Eq.refl false), kt (Eq.refl true), kc [] hz0, kt c1, kf (decide_eq_false c2)] (by kernel_rfl)
  · have h := h.2 c1
    have e1 := h
    exact callC_out (Sub.bool_eq e1) [kf (Eq.refl false), kf (Eq.refl false), kf (Eq.refl false), kf (Eq.refl false), kf (Eq.refl false), kf (Eq.refl false), kt (Eq.refl true), kc [] hz0, kf c1, kf (Eq.refl false)] (by kernel_rfl)


theorem uses8_w (o : OP) (h : True) : CallC P G 38 [opk o 8] [] (AOut.ret (op (usesO o 8))) [] := by
  have _ := h
  exact callC_of [kf (Eq.refl false), kf (Eq.refl false), kf (Eq.refl false), kf (Eq.refl false), kf (Eq.refl false), kf (Eq.refl false), kf (Eq.refl false), kt (Eq.refl true)] (by kernel_rfl)

theorem rf8_w (o : OP) (v : Bool) (hc : o.cx.length ≤ 1000000000) (h3 : -9223372036854775808 ≤ o.f3 ∧ o.f3 < 9223372036854775808) (h : ((((knowsB { dv := OP.dv o, sq := OP.sq o, tm := OP.tm o, cx := OP.cx o, pk := OP.pk o, pn := OP.pn o, kd := 8, f1 := OP.f1 o, f2 := OP.f2 o, f3 := OP.f3 o, t1 := OP.t1 o, t2 := OP.t2 o, t3 := OP.t3 o, ky := OP.ky o, vl := OP.vl o, n := OP.n o, on := OP.on o } (OP.f1 o) (OP.f2 o) (OP.f3 o)) = true) → ((((knowsB { dv := OP.dv o, sq := OP.sq o, tm := OP.tm o, cx := OP.cx o, pk := OP.pk o, pn := OP.pn o, kd := 8, f1 := OP.f1 o, f2 := OP.f2 o, f3 := OP.f3 o, t1 := OP.t1 o, t2 := OP.t2 o, t3 := OP.t3 o, ky := OP.ky o, vl := OP.vl o, n := OP.n o, on := OP.on o } (OP.t1 o) (OP.t2 o) (OP.t3 o)) = true) → (((OP.n o ≥ (0 : Int)) → (decide (OP.n o ≤ (15 : Int))) = (v)) ∧ ((¬OP.n o ≥ (0 : Int)) → (false) = (v)))) ∧ (((knowsB { dv := OP.dv o, sq := OP.sq o, tm := OP.tm o, cx := OP.cx o, pk := OP.pk o, pn := OP.pn o, kd := 8, f1 := OP.f1 o, f2 := OP.f2 o, f3 := OP.f3 o, t1 := OP.t1 o, t2 := OP.t2 o, t3 := OP.t3 o, ky := OP.ky o, vl := OP.vl o, n := OP.n o, on := OP.on o } (OP.t1 o) (OP.t2 o) (OP.t3 o)) = false) → (false) = (v)))) ∧ (((knowsB { dv := OP.dv o, sq := OP.sq o, tm := OP.tm o, cx := OP.cx o, pk := OP.pk o, pn := OP.pn o, kd := 8, f1 := OP.f1 o, f2 := OP.f2 o, f3 := OP.f3 o, t1 := OP.t1 o, t2 := OP.t2 o, t3 := OP.t3 o, ky := OP.ky o, vl := OP.vl o, n := OP.n o, on := OP.on o } (OP.f1 o) (OP.f2 o) (OP.f3 o)) = false) → (false) = (v)))) : CallC P G 37 [opk o 8] [] (AOut.ret (Am.bool v)) [] := by
  have hz0 := (@Go.Ops.rknows_c ({ dv := OP.dv o, sq := OP.sq o, tm := OP.tm o, cx := OP.cx o, pk := OP.pk o, pn := OP.pn o, kd := 8, f1 := OP.f1 o, f2 := OP.f2 o, f3 := OP.f3 o, t1 := OP.t1 o, t2 := OP.t2 o, t3 := OP.t3 o, ky := OP.ky o, vl := OP.vl o, n := OP.n o, on := OP.on o }) (OP.f1 o) (OP.f2 o) (OP.f3 o) (by omega))
  rcases Bool.eq_false_or_eq_true ((knowsB { dv := OP.dv o, sq := OP.sq o, tm := OP.tm o, cx := OP.cx o, pk := OP.pk o, pn := OP.pn o, kd := 8, f1 := OP.f1 o, f2 := OP.f2 o, f3 := OP.f3 o, t1 := OP.t1 o, t2 := OP.t2 o, t3 := OP.t3 o, ky := OP.ky o, vl := OP.vl o, n := OP.n o, on := OP.on o } (OP.f1 o) (OP.f2 o) (OP.f3 o))) with c1 | c1
  · have h := h.1 c1
    have hz1 := (@Go.Ops.rknows_c ({ dv := OP.dv o, sq := OP.sq o, tm := OP.tm o, cx := OP.cx o, pk := OP.pk o, pn := OP.pn o, kd := 8, f1 := OP.f1 o, f2 := OP.f2 o, f3 := OP.f3 o, t1 := OP.t1 o, t2 := OP.t2 o, t3 := OP.t3 o, ky := OP.ky o, vl := OP.vl o, n := OP.n o, on := OP.on o }) (OP.t1 o) (OP.t2 o) (OP.t3 o) (by omega))
    rcases Bool.eq_false_or_eq_true ((knowsB { dv := OP.dv o, sq := OP.sq o, tm := OP.tm o, cx := OP.cx o, pk := OP.pk o, pn := OP.pn o, kd := 8, f1 := OP.f1 o, f2 := OP.f2 o, f3 := OP.f3 o, t1 := OP.t1 o, t2 := OP.t2 o, t3 := OP.t3 o, ky := OP.ky o, vl := OP.vl o, n := OP.n o, on := OP.on o } (OP.t1 o) (OP.t2 o) (OP.t3 o))) with c2 | c2
    · have h := h.1 c2
      by_cases c3 : (OP.n o ≥ (0 : Int))
      · have h := h.1 c3
        have e1 := h
        exact callC_out (Sub.bool_eq e1) [kf (Eq.refl false), kf (Eq.refl false), kf (Eq.refl false), kf (Eq.refl false), kf (Eq.refl false), kf (Eq.refl false), kf (Eq.refl false), kc [] hz0, kt c1, kc [] hz1, kt c2, kt (decide_eq_true c3)] (by kernel_rfl)
      · have h := h.2 c3
        have e1 := h
        exact callC_out (Sub.bool_eq e1) [kf (Eq.refl false), kf (Eq.refl false), kf (Eq.refl false), kf (Eq.refl false), kf (Eq.refl false), kf (Eq.refl false), kf (Eq.refl false), kc [] hz0, kt c1, kc [] hz1, kt c2, kf (decide_eq_false c3)] (by kernel_rfl)
    · have h := h.2 c2
      have e1 := h
      exact callC_out (Sub.bool_eq e1) [kf (Eq.refl false), kf (Eq.refl false), kf (Eq.refl false), kf (Eq.refl false), kf (Eq.refl false), kf (Eq.refl false), kf (Eq.refl false), kc [] hz0, kt c1, kc [] hz1, kf c2, kf (Eq.refl false)] (by kernel_rfl)
  · have h := h.2 c1
    have e1 := h
    exact callC_out (Sub.bool_eq e1) [kf (Eq.refl false), kf (Eq.refl false), kf (Eq.refl false), kf (Eq.refl false), kf (Eq.refl false), kf (Eq.refl false), kf (Eq.refl false), kc [] hz0, kf c1, kf (Eq.refl false), kf (Eq.refl false)] (by kernel_rfl)


theorem rchk_w (o u : OP) (p c v : Int) (b1 b2 b3 b4 : Bool) (hd : CallC P G 33 [dot (o.dv, o.sq)] [] (.ret (bool b1)) []) (hv : CallC P G 34 [vec o.cx] [] (.ret (int c)) []) (hc : CallC P G 35 [vec o.cx, dot (o.dv, o.sq)] [] (.ret (bool b2)) []) (hp : CallC P G 36 [int o.kd] [] (.ret (int p)) []) (hf : CallC P G 37 [op o] [] (.ret (bool b3)) []) (hu : CallC P G 38 [op o] [] (.ret (op u)) []) (hs : CallC P G 17 [op o, op u] [] (.ret (bool b4)) []) (h : ((((b1) = true) → (((OP.tm o < (1 : Int)) → (170 : Int) = (v)) ∧ ((¬OP.tm o < (1 : Int)) → (((OP.tm o > (1099511627776 : Int)) → (170 : Int) = (v)) ∧ ((¬OP.tm o > (1099511627776 : Int)) → (((c = (0 : Int)) → ((((b2) = true) → (170 : Int) = (v)) ∧ (((b2) = false) → (((p = (0 : Int)) → (170 : Int) = (v)) ∧ ((¬p = (0 : Int)) → (((OP.pk o = p) → ((((↑(ByteArray.size (OP.pn o)) : Int) > (64 : Int)) → (170 : Int) = (v)) ∧ ((¬(↑(ByteArray.size (OP.pn o)) : Int) > (64 : Int)) → ((((b3) = true) → ((((b4) = true) → (0 : Int) = (v)) ∧ (((b4) = false) → (170 : Int) = (v)))) ∧ (((b3) = false) → (170 : Int) = (v)))))) ∧ ((¬OP.pk o = p) → (170 : Int) = (v)))))))) ∧ ((¬c = (0 : Int)) → (170 : Int) = (v)))))))) ∧ (((b1) = false) → (170 : Int) = (v)))) : CallC P G 13 [op o] [] (AOut.ret (int v)) [] := by
  have hz0 := (@hd )
  have hz2 := (@hv )
  have hz4 := (@hc )
  have hz5 := (@hp )
  have hz7 := (@hf )
  have hz9 := (@hu )
  have hz10 := (@hs )
  rcases Bool.eq_false_or_eq_true ((b1)) with c1 | c1
  · have h := h.1 c1
    have hz1 : (!b1) = false := (congrArg Bool.not (c1))
    by_cases c2 : (OP.tm o < (1 : Int))
    · have h := h.1 c2
      have e1 := h
      exact callC_out (Sub.int_eq e1) [kc [] hz0, kf hz1, kt (decide_eq_true c2), kt (Eq.refl true), kt (Eq.refl true), kt (Eq.refl true)] (by kernel_rfl)
    · have h := h.2 c2
      by_cases c3 : (OP.tm o > (1099511627776 : Int))
      · have h := h.1 c3
        have e1 := h
        exact callC_out (Sub.int_eq e1) [kc [] hz0, kf hz1, kf (decide_eq_false c2), kt (decide_eq_true c3), kt (Eq.refl true), kt (Eq.refl true)] (by kernel_rfl)
      · have h := h.2 c3
        by_cases c4 : (c = (0 : Int))
        · have h := h.1 c4
          have hz3 : (c != 0) = false := (congrArg Bool.not (beq_iff_eq.2 c4))
          rcases Bool.eq_false_or_eq_true ((b2)) with c5 | c5
          · have h := h.1 c5
            have e1 := h
            exact callC_out (Sub.int_eq e1) [kc [] hz0, kf hz1, kf (decide_eq_false c2), kf (decide_eq_false c3), kc [] hz2, kf hz3, kc [] hz4, kt c5] (by kernel_rfl)
          · have h := h.2 c5
            by_cases c6 : (p = (0 : Int))
            · have h := h.1 c6
              have e1 := h
              exact callC_out (Sub.int_eq e1) [kc [] hz0, kf hz1, kf (decide_eq_false c2), kf (decide_eq_false c3), kc [] hz2, kf hz3, kc [] hz4, kf c5, kc [] hz5, kt (beq_iff_eq.2 c6), kt (Eq.refl true), kt (Eq.refl true)] (by kernel_rfl)
            · have h := h.2 c6
              by_cases c7 : (OP.pk o = p)
              · have h := h.1 c7
                have hz6 : (OP.pk o != p) = false := (congrArg Bool.not (beq_iff_eq.2 c7))
                by_cases c8 : ((↑(ByteArray.size (OP.pn o)) : Int) > (64 : Int))
                · have h := h.1 c8
                  have e1 := h
                  exact callC_out (Sub.int_eq e1) [kc [] hz0, kf hz1, kf (decide_eq_false c2), kf (decide_eq_false c3), kc [] hz2, kf hz3, kc [] hz4, kf c5, kc [] hz5, kf (beq_eq_false_iff_ne.2 c6), kc [] hz5, kf hz6, kt (decide_eq_true c8)] (by kernel_rfl)
                · have h := h.2 c8
                  rcases Bool.eq_false_or_eq_true ((b3)) with c9 | c9
                  · have h := h.1 c9
                    have hz8 : (!b3) = false := (congrArg Bool.not (c9))
                    rcases Bool.eq_false_or_eq_true ((b4)) with c10 | c10
                    · have h := h.1 c10
                      have e1 := h
                      exact callC_out (Sub.int_eq e1) [kc [] hz0, kf hz1, kf (decide_eq_false c2), kf (decide_eq_false c3), kc [] hz2, kf hz3, kc [] hz4, kf c5, kc [] hz5, kf (beq_eq_false_iff_ne.2 c6), kc [] hz5, kf hz6, kf (decide_eq_false c8), kc [] hz7, kf hz8, kc [] hz9, kc [] hz10, kf (show (!b4) = false from (congrArg Bool.not (c10)))] (by kernel_rfl)
                    · have h := h.2 c10
                      have e1 := h
                      exact callC_out (Sub.int_eq e1) [kc [] hz0, kf hz1, kf (decide_eq_false c2), kf (decide_eq_false c3), kc [] hz2, kf hz3, kc [] hz4, kf c5, kc [] hz5, kf (beq_eq_false_iff_ne.2 c6), kc [] hz5, kf hz6, kf (decide_eq_false c8), kc [] hz7, kf hz8, kc [] hz9, kc [] hz10, kt (show (!b4) = true from (congrArg Bool.not (c10)))] (by kernel_rfl)
                  · have h := h.2 c9
                    have e1 := h
                    exact callC_out (Sub.int_eq e1) [kc [] hz0, kf hz1, kf (decide_eq_false c2), kf (decide_eq_false c3), kc [] hz2, kf hz3, kc [] hz4, kf c5, kc [] hz5, kf (beq_eq_false_iff_ne.2 c6), kc [] hz5, kf hz6, kf (decide_eq_false c8), kc [] hz7, kt (show (!b3) = true from (congrArg Bool.not (c9))), kt (Eq.refl true)] (by kernel_rfl)
              · have h := h.2 c7
                have e1 := h
                exact callC_out (Sub.int_eq e1) [kc [] hz0, kf hz1, kf (decide_eq_false c2), kf (decide_eq_false c3), kc [] hz2, kf hz3, kc [] hz4, kf c5, kc [] hz5, kf (beq_eq_false_iff_ne.2 c6), kc [] hz5, kt (show (OP.pk o != p) = true from (congrArg Bool.not (beq_eq_false_iff_ne.2 c7))), kt (Eq.refl true)] (by kernel_rfl)
        · have h := h.2 c4
          have e1 := h
          exact callC_out (Sub.int_eq e1) [kc [] hz0, kf hz1, kf (decide_eq_false c2), kf (decide_eq_false c3), kc [] hz2, kt (show (c != 0) = true from (congrArg Bool.not (beq_eq_false_iff_ne.2 c4))), kt (Eq.refl true)] (by kernel_rfl)
  · have h := h.2 c1
    have e1 := h
    exact callC_out (Sub.int_eq e1) [kc [] hz0, kt (show (!b1) = true from (congrArg Bool.not (c1))), kt (Eq.refl true), kt (Eq.refl true), kt (Eq.refl true), kt (Eq.refl true)] (by kernel_rfl)

end Go.Ops

/- OPS, 5: Check, in both packages. -/
namespace Go.Ops
set_option maxRecDepth 100000
set_option linter.unusedSimpArgs false
set_option linter.unusedVariables false
open Go Go.Am Go.Proofs Go.Seat Go.Vec Go.Cdc

/-- Numbers within what a machine holds, and a context that is not too long. -/
structure Okn (o : OP) : Prop where
  cx : o.cx.length ≤ 1000000000
  kd : -9223372036854775808 ≤ o.kd ∧ o.kd < 9223372036854775808
  f3 : -9223372036854775808 ≤ o.f3 ∧ o.f3 < 9223372036854775808

def stageB (o : OP) : Bool := isDotB (o.dv, o.sq) && decide (o.tm ≥ 1) && decide (o.tm ≤ 1099511627776) && okB o.cx && !coversB o.cx (o.dv, o.sq)
def kindB (o : OP) : Bool := decide (o.pk = partOf o.kd) && decide ((o.pn.size : Int) ≤ 64) && fieldsB o o.kd && decide (restO o o.kd = zop)
def chkB' (o : OP) : Bool := stageB o && decide (1 ≤ o.kd) && decide (o.kd ≤ 8) && kindB o
/-- What Check answers. -/
def chkOE (o : OP) : Int := if chkB' o = true then 0 else 170
theorem dot1 (x : D) : checkE [x] = if isDotB x = true then 0 else 120 := by
  unfold checkE okB
  simp [okN, okAt]
theorem with_nil (o : OP) : ∃ l : List D, CallC P G 27 [nilS, dot (o.dv, o.sq)] [] (.ret (.tup [vec l, int (if isDotB (o.dv, o.sq) = true then 0 else 120)])) [] := by
  have h := with_c [] o.dv o.sq (by simp)
  refine ⟨joinE [] [(o.dv, o.sq)], ?_⟩
  have e : check2E [] [(o.dv, o.sq)] = if isDotB (o.dv, o.sq) = true then 0 else 120 := by
    unfold check2E
    rw [if_pos (by rfl), dot1]
  rw [e] at h
  exact CallC.args' h ⟨Sub.nil 2, Sub.refl _, trivial⟩

theorem kind_c (o : OP) (k : Int) (b : Bool) (hb : b = fieldsB o k) (hk : o.kd = k) (hs : stageB o = true) (h1 : 1 ≤ k) (h8 : k ≤ 8)
    (h : ∀ v, (((o.pk = partOf k → ((((o.pn.size : Int) > 64 → 170 = v) ∧ (¬ (o.pn.size : Int) > 64 → ((b = true → ((restO o k = zop → 0 = v) ∧ (¬ restO o k = zop → 170 = v))) ∧ (b = false → 170 = v)))))) ∧ (¬ o.pk = partOf k → 170 = v))) → CallC P G 12 [opk o k] [] (.ret (int v)) []) :
    CallC P G 12 [op o] [] (.ret (int (chkOE o))) [] := by
  rw [← opk_op o k hk]
  apply h
  subst hk hb
  have e : chkB' o = kindB o := by simp [chkB', hs, h1, h8]
  unfold chkOE
  rw [e]
  unfold kindB
  refine ⟨fun a => ⟨fun b => ?_, fun b => ⟨fun c => ⟨fun d => ?_, fun d => ?_⟩, fun c => ?_⟩⟩, fun a => ?_⟩
  · rw [if_neg]; intro hq; simp only [Bool.and_eq_true, decide_eq_true_eq] at hq; omega
  · rw [if_pos]; simp only [Bool.and_eq_true, decide_eq_true_eq]; exact ⟨⟨⟨a, by omega⟩, c⟩, d⟩
  · rw [if_neg]; intro hq; simp only [Bool.and_eq_true, decide_eq_true_eq] at hq; exact d hq.2
  · rw [if_neg]; intro hq; simp only [Bool.and_eq_true, decide_eq_true_eq] at hq; rw [c] at hq; exact absurd hq.1.2 (by decide)
  · rw [if_neg]; intro hq; simp only [Bool.and_eq_true, decide_eq_true_eq] at hq; exact a hq.1.1.1

theorem restO_cx (o : OP) (k : Int) : (restO o k).cx = [] := by unfold restO; split <;> rfl
theorem rest_same (o : OP) (k : Int) : CallC P G 16 [op (restO o k), op zop] [] (.ret (bool (decide (restO o k = zop)))) [] := same_c _ _ (by rw [restO_cx]; simp)

theorem bad_c (o : OP) (h : chkB' o = false) (hc : CallC P G 12 [op o] [] (.ret (int 170)) []) : CallC P G 12 [op o] [] (.ret (int (chkOE o))) [] := by
  rw [show chkOE o = 170 by unfold chkOE; rw [if_neg (by rw [h]; decide)]]; exact hc
theorem check_c (o : OP) (hn : Okn o) : CallC P G 12 [op o] [] (.ret (int (chkOE o))) [] := by
  obtain ⟨l, hw⟩ := with_nil o
  by_cases hd : isDotB (o.dv, o.sq) = true
  · rw [if_pos hd] at hw
    by_cases t1 : o.tm < 1
    · exact bad_c o (by simp only [chkB', stageB]; simp [show ¬ o.tm ≥ 1 by omega]) (chkB o l hw t1 trivial)
    by_cases t2 : 1099511627776 < o.tm
    · exact bad_c o (by simp only [chkB', stageB]; simp [show ¬ o.tm ≤ 1099511627776 by omega]) (chkC o l hw (by omega) t2 trivial)
    have hv := Vec.check_c o.cx hn.cx
    by_cases hok : okB o.cx = true
    · have e0 : checkE o.cx = 0 := by unfold checkE; rw [if_pos hok]
      rw [e0] at hv
      have hcv := covers_c o.cx o.dv o.sq hn.cx
      cases hcb : coversB o.cx (o.dv, o.sq) with
      | true =>
        rw [hcb] at hcv
        exact bad_c o (by simp only [chkB', stageB]; simp [hcb]) (chkE o l hw (by omega) (by omega) hv hcv trivial)
      | false =>
        rw [hcb] at hcv
        have hs : stageB o = true := by simp only [stageB]; simp [hd, hok, hcb]; omega
        by_cases hk : o.kd < 1 ∨ 8 < o.kd
        · exact bad_c o (by
            unfold chkB'
            have : (decide (1 ≤ o.kd) && decide (o.kd ≤ 8)) = false := by
              rw [Bool.and_eq_false_iff]; simp; omega
            rw [Bool.and_assoc (stageB o), this]; simp) (chkF o l hw (by omega) (by omega) hv hcv (kgn o.kd hn.kd hk) trivial)
        · have hcase : o.kd = 1 ∨ o.kd = 2 ∨ o.kd = 3 ∨ o.kd = 4 ∨ o.kd = 5 ∨ o.kd = 6 ∨ o.kd = 7 ∨ o.kd = 8 := by omega
          rcases hcase with h | h | h | h | h | h | h | h
          · exact kind_c o 1 _ rfl h hs (by decide) (by decide) fun v q => chk1 o l _ v hn.cx hw (by omega) (by omega) hv hcv (k1_c { o with kd := 1 } hn.cx) (rest1_w o trivial) (rest_same o 1) q
          · exact kind_c o 2 _ rfl h hs (by decide) (by decide) fun v q => chk2 o l _ v hn.cx hw (by omega) (by omega) hv hcv (k2_c { o with kd := 2 } hn.cx) (rest2_w o trivial) (rest_same o 2) q
          · exact kind_c o 3 _ rfl h hs (by decide) (by decide) fun v q => chk3 o l _ v hn.cx hw (by omega) (by omega) hv hcv (k3_c { o with kd := 3 }) (rest3_w o trivial) (rest_same o 3) q
          · exact kind_c o 4 _ rfl h hs (by decide) (by decide) fun v q => chk4 o l _ v hn.cx hw (by omega) (by omega) hv hcv (k4_c { o with kd := 4 }) (rest4_w o trivial) (rest_same o 4) q
          · exact kind_c o 5 _ rfl h hs (by decide) (by decide) fun v q => chk5 o l _ v hn.cx hw (by omega) (by omega) hv hcv (k5_c { o with kd := 5 }) (rest5_w o trivial) (rest_same o 5) q
          · exact kind_c o 6 _ rfl h hs (by decide) (by decide) fun v q => chk6 o l _ v hn.cx hw (by omega) (by omega) hv hcv (k6_c { o with kd := 6 } hn.cx) (rest6_w o trivial) (rest_same o 6) q
          · exact kind_c o 7 _ rfl h hs (by decide) (by decide) fun v q => chk7 o l _ v hn.cx hw (by omega) (by omega) hv hcv (k7_c { o with kd := 7 } hn.cx hn.f3) (rest7_w o trivial) (rest_same o 7) q
          · exact kind_c o 8 _ rfl h hs (by decide) (by decide) fun v q => chk8 o l _ v hn.cx hw (by omega) (by omega) hv hcv (k8_c { o with kd := 8 } hn.cx) (rest8_w o trivial) (rest_same o 8) q
    · have e0 : ¬ checkE o.cx = 0 := by unfold checkE; rw [if_neg hok]; decide
      exact bad_c o (by simp only [chkB', stageB]; simp [hok]) (chkD o l _ hw (by omega) (by omega) hv e0 trivial)
  · rw [if_neg hd] at hw
    exact bad_c o (by simp only [chkB', stageB]; simp [hd]) (chkA o l 120 hw (by decide) trivial)

/-! The reference's Check -/
theorem rchk0_w (o : OP) (c v : Int) (b1 b2 : Bool) (hd : CallC P G 33 [dot (o.dv, o.sq)] [] (.ret (bool b1)) []) (hv : CallC P G 34 [vec o.cx] [] (.ret (int c)) []) (hc : CallC P G 35 [vec o.cx, dot (o.dv, o.sq)] [] (.ret (bool b2)) []) (hp : CallC P G 36 [int o.kd] [] (.ret (int 0)) []) (h : ((((b1) = true) → (((OP.tm o < (1 : Int)) → (170 : Int) = (v)) ∧ ((¬OP.tm o < (1 : Int)) → (((OP.tm o > (1099511627776 : Int)) → (170 : Int) = (v)) ∧ ((¬OP.tm o > (1099511627776 : Int)) → (((c = (0 : Int)) → ((((b2) = true) → (170 : Int) = (v)) ∧ (((b2) = false) → (170 : Int) = (v)))) ∧ ((¬c = (0 : Int)) → (170 : Int) = (v)))))))) ∧ (((b1) = false) → (170 : Int) = (v)))) : CallC P G 13 [op o] [] (AOut.ret (int v)) [] := by
  have hz0 := (@hd )
  have hz2 := (@hv )
  have hz4 := (@hc )
  rcases Bool.eq_false_or_eq_true ((b1)) with c1 | c1
  · have h := h.1 c1
    have hz1 : (!b1) = false := (congrArg Bool.not (c1))
    by_cases c2 : (OP.tm o < (1 : Int))
    · have h := h.1 c2
      have e1 := h
      exact callC_out (Sub.int_eq e1) [kc [] hz0, kf hz1, kt (decide_eq_true c2), kt (Eq.refl true), kt (Eq.refl true), kt (Eq.refl true)] (by kernel_rfl)
    · have h := h.2 c2
      by_cases c3 : (OP.tm o > (1099511627776 : Int))
      · have h := h.1 c3
        have e1 := h
        exact callC_out (Sub.int_eq e1) [kc [] hz0, kf hz1, kf (decide_eq_false c2), kt (decide_eq_true c3), kt (Eq.refl true), kt (Eq.refl true)] (by kernel_rfl)
      · have h := h.2 c3
        by_cases c4 : (c = (0 : Int))
        · have h := h.1 c4
          have hz3 : (c != 0) = false := (congrArg Bool.not (beq_iff_eq.2 c4))
          rcases Bool.eq_false_or_eq_true ((b2)) with c5 | c5
          · have h := h.1 c5
            have e1 := h
            exact callC_out (Sub.int_eq e1) [kc [] hz0, kf hz1, kf (decide_eq_false c2), kf (decide_eq_false c3), kc [] hz2, kf hz3, kc [] hz4, kt c5] (by kernel_rfl)
          · have h := h.2 c5
            have e1 := h
            exact callC_out (Sub.int_eq e1) [kc [] hz0, kf hz1, kf (decide_eq_false c2), kf (decide_eq_false c3), kc [] hz2, kf hz3, kc [] hz4, kf c5, kc [] (@hp ), kt (Eq.refl true), kt (Eq.refl true), kt (Eq.refl true)] (by kernel_rfl)
        · have h := h.2 c4
          have e1 := h
          exact callC_out (Sub.int_eq e1) [kc [] hz0, kf hz1, kf (decide_eq_false c2), kf (decide_eq_false c3), kc [] hz2, kt (show (c != 0) = true from (congrArg Bool.not (beq_eq_false_iff_ne.2 c4))), kt (Eq.refl true)] (by kernel_rfl)
  · have h := h.2 c1
    have e1 := h
    exact callC_out (Sub.int_eq e1) [kc [] hz0, kt (show (!b1) = true from (congrArg Bool.not (c1))), kt (Eq.refl true), kt (Eq.refl true), kt (Eq.refl true), kt (Eq.refl true)] (by kernel_rfl)

theorem knowsB_kd (o : OP) (k a b c : Int) : knowsB { o with kd := k } a b c = knowsB o a b c := rfl
theorem rf1_c (o : OP) (hn : Okn o) : CallC P G 37 [opk o 1] [] (.ret (bool (fieldsB o 1))) [] := rf1_w o _ hn.cx hn.f3 (by
  simp only [fieldsB, beginsB]
  have e := fun a b c => knowsB_kd o 1 a b c
  simp only [e]
  grind)
theorem rf2_c (o : OP) (hn : Okn o) : CallC P G 37 [opk o 2] [] (.ret (bool (fieldsB o 2))) [] := rf2_w o _ hn.cx hn.f3 rfl
theorem rf3_c (o : OP) (hn : Okn o) : CallC P G 37 [opk o 3] [] (.ret (bool (fieldsB o 3))) [] := rf3_w o _ hn.cx hn.f3 (by simp only [fieldsB]; exact ⟨fun h => by simp [h], fun h => by simp [h]⟩)
theorem rf4_c (o : OP) (hn : Okn o) : CallC P G 37 [opk o 4] [] (.ret (bool (fieldsB o 4))) [] := rf4_w o _ hn.cx hn.f3 rfl
theorem rf5_c (o : OP) (hn : Okn o) : CallC P G 37 [opk o 5] [] (.ret (bool (fieldsB o 5))) [] := rf5_w o _ hn.cx hn.f3 (by simp only [fieldsB]; exact ⟨fun h => by simp [h], fun h => by simp [h]⟩)
theorem rf6_c (o : OP) (hn : Okn o) : CallC P G 37 [opk o 6] [] (.ret (bool (fieldsB o 6))) [] := rf6_w o _ hn.cx hn.f3 (by
  simp only [fieldsB, beginsB]
  have e := fun a b c => knowsB_kd o 6 a b c
  simp only [e]
  repeat' (first | refine And.intro ?_ ?_ | intro _)
  all_goals grind)
theorem rf7_c (o : OP) (hn : Okn o) : CallC P G 37 [opk o 7] [] (.ret (bool (fieldsB o 7))) [] := rf7_w o _ hn.cx hn.f3 (by
  simp only [fieldsB]
  have e := fun a b c => knowsB_kd o 7 a b c
  simp only [e]
  refine ⟨fun h => ?_, fun h => by simp [h]⟩
  have := knowsB_at h
  rw [Am.wrap_ok (by omega) (by omega)]
  exact ⟨fun h2 => by simp [h, h2], fun h2 => by simp [h, h2]⟩)
theorem rf8_c (o : OP) (hn : Okn o) : CallC P G 37 [opk o 8] [] (.ret (bool (fieldsB o 8))) [] := rf8_w o _ hn.cx hn.f3 (by
  simp only [fieldsB]
  have e := fun a b c => knowsB_kd o 8 a b c
  simp only [e]
  exact ⟨fun h => ⟨fun h1 => ⟨fun h2 => by simp [h, h1, h2], fun h2 => by simp [h, h1, h2]⟩, fun h1 => by simp [h, h1]⟩, fun h => by simp [h]⟩)
theorem partOf_pos {k : Int} : partOf k = 0 ↔ k < 1 ∨ 8 < k := by unfold partOf; grind
theorem rfields_c (o : OP) (hn : Okn o) (hk : ¬ (o.kd < 1 ∨ 8 < o.kd)) : CallC P G 37 [op o] [] (.ret (bool (fieldsB o o.kd))) [] := by
  have hcase : o.kd = 1 ∨ o.kd = 2 ∨ o.kd = 3 ∨ o.kd = 4 ∨ o.kd = 5 ∨ o.kd = 6 ∨ o.kd = 7 ∨ o.kd = 8 := by omega
  rcases hcase with h | h | h | h | h | h | h | h <;> rw [← opk_op o _ h, h]
  · exact rf1_c o hn
  · exact rf2_c o hn
  · exact rf3_c o hn
  · exact rf4_c o hn
  · exact rf5_c o hn
  · exact rf6_c o hn
  · exact rf7_c o hn
  · exact rf8_c o hn
theorem ruses_c (o : OP) (hk : ¬ (o.kd < 1 ∨ 8 < o.kd)) : CallC P G 38 [op o] [] (.ret (op (usesO o o.kd))) [] := by
  have hcase : o.kd = 1 ∨ o.kd = 2 ∨ o.kd = 3 ∨ o.kd = 4 ∨ o.kd = 5 ∨ o.kd = 6 ∨ o.kd = 7 ∨ o.kd = 8 := by omega
  rcases hcase with h | h | h | h | h | h | h | h <;> rw [← opk_op o _ h, h]
  · exact uses1_w o trivial
  · exact uses2_w o trivial
  · exact uses3_w o trivial
  · exact uses4_w o trivial
  · exact uses5_w o trivial
  · exact uses6_w o trivial
  · exact uses7_w o trivial
  · exact uses8_w o trivial
/-- What is left besides a kind's fields is nothing just where the operation uses no other field. -/
theorem rest_uses (o : OP) (hk : ¬ (o.kd < 1 ∨ 8 < o.kd)) : restO o o.kd = zop ↔ o = usesO o o.kd := by
  have hcase : o.kd = 1 ∨ o.kd = 2 ∨ o.kd = 3 ∨ o.kd = 4 ∨ o.kd = 5 ∨ o.kd = 6 ∨ o.kd = 7 ∨ o.kd = 8 := by omega
  obtain ⟨dv, sq, tm, cx, pk, pn, kd, f1, f2, f3, t1, t2, t3, ky, vl, n, on⟩ := o
  simp only at hcase ⊢
  rcases hcase with h | h | h | h | h | h | h | h <;> subst h <;> simp [restO, usesO, zop]
theorem rcheck_c (o : OP) (hn : Okn o) : CallC P G 13 [op o] [] (.ret (int (chkOE o))) [] := by
  have hd := refDot_c o.dv o.sq
  have hv := Vec.rcheck_c o.cx hn.cx
  have hc := rcovers_c o.cx o.dv o.sq hn.cx
  have hp := part_c o.kd
  have hst : ∀ c, (if okB o.cx = true then (0 : Int) else 120) = c → (c = 0 ↔ okB o.cx = true) := by
    intro c h; subst h; split <;> simp_all
  by_cases hk : o.kd < 1 ∨ 8 < o.kd
  · have hp0 : partOf o.kd = 0 := partOf_pos.2 hk
    rw [hp0] at hp
    have e : chkOE o = 170 := by
      unfold chkOE
      rw [if_neg]
      unfold chkB'
      simp only [Bool.and_eq_true, decide_eq_true_eq]
      omega
    rw [e]
    exact rchk0_w o _ 170 _ _ hd hv hc hp (by simp)
  · have hf := rfields_c o hn hk
    have hu := ruses_c o hk
    have hs := rsame_c o (usesO o o.kd) hn.cx
    refine rchk_w o _ _ _ _ _ _ _ _ hd hv hc hp hf hu hs ?_
    have e1 := rest_uses o hk
    have e2 : ¬ partOf o.kd = 0 := fun h => hk (partOf_pos.1 h)
    have e3 : checkE o.cx = 0 ↔ okB o.cx = true := hst _ rfl
    have e4 : 1 ≤ o.kd ∧ o.kd ≤ 8 := by omega
    unfold chkOE chkB' stageB kindB
    simp only [Bool.and_eq_true, decide_eq_true_eq, Bool.not_eq_true', ← e3, e1]
    refine ⟨fun a1 => ⟨fun a2 => ?_, fun a2 => ⟨fun a3 => ?_, fun a3 => ⟨fun a4 => ⟨fun a5 => ?_, fun a5 => ⟨fun a6 => absurd a6 e2, fun _ => ⟨fun a7 => ⟨fun a8 => ?_, fun a8 => ⟨fun a9 => ⟨fun b1 => ?_, fun b1 => ?_⟩, fun a9 => ?_⟩⟩, fun a7 => ?_⟩⟩⟩, fun a4 => ?_⟩⟩⟩, fun a1 => ?_⟩
    · rw [if_neg]; intro q; omega
    · rw [if_neg]; intro q; omega
    · rw [if_neg]; intro q; rw [a5] at q; exact absurd q.1.1.1.2 (by decide)
    · rw [if_neg]; intro q; omega
    · rw [if_pos]; exact ⟨⟨⟨⟨⟨⟨⟨a1, by omega⟩, by omega⟩, a4⟩, a5⟩, e4.1⟩, e4.2⟩, ⟨⟨a7, by omega⟩, a9⟩, b1⟩
    · rw [if_neg]; intro q; exact (of_decide_eq_false b1) q.2.2
    · rw [if_neg]; intro q; rw [a9] at q; exact absurd q.2.1.2 (by decide)
    · rw [if_neg]; intro q; exact a7 q.2.1.1.1
    · rw [if_neg]; intro q; exact a4 q.1.1.1.1.2
    · rw [if_neg]; intro q; rw [a1] at q; exact absurd q.1.1.1.1.1.1.1 (by decide)

end Go.Ops

/- CODEC, 19: what is written is read back; encodings are different. -/
namespace Go.Cdc
set_option maxRecDepth 100000
set_option linter.unusedSimpArgs false
set_option linter.unusedVariables false
open Go Go.Am Go.Proofs Go.Seat

theorem lstF_comp {p : List UInt8 → Bool × CV × List UInt8} : ∀ (l : List CV) (r : List UInt8), (∀ x ∈ l, ∀ r, p (encB x ++ r) = (true, x, r)) → lstF p l.length (encBL l ++ r) = (true, l, r)
  | [], r, _ => rfl
  | v :: l, r, h => by
    have h1 := h v List.mem_cons_self (encBL l ++ r)
    have ih := lstF_comp l r fun x hx => h x (List.mem_cons_of_mem _ hx)
    rw [encBL_cons, List.append_assoc]
    show lstF p (l.length + 1) _ = _
    simp only [lstF, h1, if_true, ih]
theorem valF_comp (v : CV) : ∀ (d : Nat) (r : List UInt8), wf v = true → Okv v → dp v ≤ d → valF d (encB v ++ r) = (true, v, r) := by
  refine CV.ind (p := fun v => ∀ (d : Nat) (r : List UInt8), wf v = true → Okv v → dp v ≤ d → valF d (encB v ++ r) = (true, v, r)) (fun k n s l ih d r hw hok hd => ?_) v
  cases hok with
  | mk _ _ _ _ hn hs hl hall =>
  have hdeep : ∃ deep p, valF d = valS deep p := by cases d <;> exact ⟨_, _, rfl⟩
  obtain ⟨deep, p, hp⟩ := hdeep
  by_cases h1 : k = 1
  · subst h1
    simp only [wf, if_true, Bool.and_eq_true, decide_eq_true_eq] at hw
    obtain ⟨rfl, hl0⟩ := hw
    obtain rfl := List.eq_nil_of_length_eq_zero hl0
    obtain ⟨k1, k2, k3⟩ := numF_num0 (uns n) (uns_lt hn) r
    have e : encB (.mk 1 n .empty []) ++ r = 1 :: (num (uns n) ++ r) := by simp [encB]
    rw [hp, e, valS_1 (by decide), k1, k2, k3, sgn_uns]
    rfl
  by_cases h2 : k = 2
  · subst h2
    have hw' : n = 0 ∧ l.length = 0 := by simpa [wf] using hw
    obtain ⟨rfl, hl0⟩ := hw'
    obtain rfl := List.eq_nil_of_length_eq_zero hl0
    obtain ⟨k1, k2, k3⟩ := numF_num0 s.size (by omega) (s.data.toList ++ r)
    have e : encB (.mk 2 0 s []) ++ r = 2 :: (num s.size ++ (s.data.toList ++ r)) := by simp [encB]
    have hlen : s.data.toList.length = s.size := rfl
    have ok : lenOk (num s.size ++ (s.data.toList ++ r)) = true := by
      simp only [lenOk, k1, k2, k3, Bool.true_and, decide_eq_true_eq, List.length_append, hlen]; omega
    rw [hp, e, valS_2 (by decide), ok, k2, k3, ← hlen, List.take_left', List.drop_left']
    · rfl
    · rfl
    · rfl
  · have hk : k = 3 := by
      rcases wf_k hw with h | h | h
      · exact absurd h h1
      · exact absurd h h2
      · exact h
    subst hk
    have hw' : (n = 0 ∧ s = .empty) ∧ wfL l = true := by simpa [wf, Bool.and_eq_true] using hw
    obtain ⟨⟨rfl, rfl⟩, hwl⟩ := hw'
    have hdl : dpL l + 1 ≤ d := by simpa [dp] using hd
    obtain ⟨d', rfl⟩ : ∃ d', d = d' + 1 := ⟨d - 1, by omega⟩
    obtain ⟨k1, k2, k3⟩ := numF_num0 l.length (by omega) (encBL l ++ r)
    have e : encB (.mk 3 0 .empty l) ++ r = 3 :: (num l.length ++ (encBL l ++ r)) := by simp [encB]
    have hle := encBL_len l
    have ok : lenOk (num l.length ++ (encBL l ++ r)) = true := by
      simp only [lenOk, k1, k2, k3, Bool.true_and, decide_eq_true_eq, List.length_append]; omega
    show valS true (valF d') _ = _
    rw [e, valS_3 (by decide), if_pos ⟨rfl, ok⟩, k2, k3, lstF_comp l r fun x hx r => ih x hx d' r (wfL_mem hwl x hx) (hall x hx) (by have := dp_mem hx; omega)]
    rfl
theorem dec_enc (v : CV) (hw : wf v = true) (hok : Okv v) (hd : dp v ≤ 16) : decV (encB v) = v ∧ decE (encB v) = 0 := by
  have h := valF_comp v 16 [] hw hok hd
  rw [List.append_nil] at h
  have hb : decB (encB v) = true := by simp [decB, h]
  exact ⟨by simp [decV, hb, h], by simp [decE, hb]⟩
theorem enc_inj {v w : CV} (hv : wf v = true) (hw : wf w = true) (ov : Okv v) (ow : Okv w) (dv : dp v ≤ 16) (dw : dp w ≤ 16) (h : encB v = encB w) : v = w := by
  rw [← (dec_enc v hv ov dv).1, ← (dec_enc w hw ow dw).1, h]
/-- What is read is what was written. -/
theorem dec_sound {l : List UInt8} (hl : l.length ≤ 1000000000) (h : decE l = 0) : wf (decV l) = true ∧ dp (decV l) ≤ 16 ∧ Okv (decV l) ∧ encB (decV l) = l := by
  have hb : decB l = true := by
    cases hq : decB l with
    | true => rfl
    | false => simp [decE, hq] at h
  have hb' := hb
  simp only [decB, Bool.and_eq_true, List.isEmpty_iff] at hb'
  have hg := valF_sound 16 l hl hb'.1
  have e : decV l = (valF 16 l).2.1 := by simp [decV, hb]
  rw [e]
  refine ⟨hg.wf, hg.dp, hg.ok, ?_⟩
  have := hg.eq
  rw [hb'.2, List.append_nil] at this
  exact this.symm
end Go.Cdc

/- OPS, 20: plain law: operations and their values. -/
namespace Go.Ops
set_option maxRecDepth 100000
set_option linter.unusedSimpArgs false
set_option linter.unusedVariables false
open Go Go.Am Go.Proofs Go.Seat Go.Vec Go.Cdc

abbrev I64 (n : Int) : Prop := -9223372036854775808 ≤ n ∧ n < 9223372036854775808
/-- What a machine holds. -/
structure Okp (o : OP) : Prop where
  dv : I64 o.dv
  sq : I64 o.sq
  tm : I64 o.tm
  cx : ∀ d ∈ o.cx, I64 d.1 ∧ I64 d.2
  pk : I64 o.pk
  kd : I64 o.kd
  f1 : I64 o.f1
  f2 : I64 o.f2
  f3 : I64 o.f3
  t1 : I64 o.t1
  t2 : I64 o.t2
  t3 : I64 o.t3
  n : I64 o.n
/-- A short context and short texts. -/
structure Few (B : Nat) (o : OP) : Prop where
  cx : o.cx.length ≤ B
  ky : o.ky.size ≤ B
  vl : o.vl.size ≤ B
  pn : o.pn.size ≤ B

theorem wf_cvI (n : Int) : wf (cvI n) = true := by simp [cvI, wf]
theorem wf_cvT (s : ByteArray) : wf (cvT s) = true := by simp [cvT, wf]
theorem wf_cvL {l : List CV} (h : ∀ x ∈ l, wf x = true) : wf (cvL l) = true := by simp [cvL, wf, wfL_of h]
theorem dp_cvI (n : Int) : dp (cvI n) = 0 := by simp [cvI, dp]
theorem dp_cvT (s : ByteArray) : dp (cvT s) = 0 := by simp [cvT, dp]
theorem dp_cvL {l : List CV} {d : Nat} (h : ∀ x ∈ l, dp x ≤ d) : dp (cvL l) ≤ d + 1 := by
  have := dpL_of h
  simp [cvL, dp]; exact this
theorem ok_cvI {n : Int} (h : I64 n) : Okv (cvI n) := .mk _ _ _ _ h (by decide) (by decide) (fun x hx => by cases hx)
theorem ok_cvT {s : ByteArray} (h : s.size ≤ 9223372036854775807) : Okv (cvT s) := .mk _ _ _ _ (by decide) h (by decide) (fun x hx => by cases hx)
theorem ok_cvL {l : List CV} (h : l.length ≤ 9223372036854775807) (hx : ∀ x ∈ l, Okv x) : Okv (cvL l) := .mk _ _ _ _ (by decide) (by decide) h hx
theorem len_cvI (n : Int) : (encB (cvI n)).length ≤ 11 := by
  have := (num_len (uns n)).1
  simp only [cvI, encB, if_true, List.length_cons]; omega
theorem len_cvT (s : ByteArray) : (encB (cvT s)).length ≤ 11 + s.size := by
  have := (num_len s.size).1
  have e : encB (cvT s) = 2 :: (num s.size ++ s.data.toList) := by simp [cvT, encB]
  rw [e, List.length_cons, List.length_append, bdata_length]; omega
theorem len_cvL (l : List CV) : (encB (cvL l)).length ≤ 11 + (encBL l).length := by
  have := (num_len l.length).1
  have e : encB (cvL l) = 3 :: (num l.length ++ encBL l) := by simp [cvL, encB]
  rw [e, List.length_cons, List.length_append]; omega
theorem len_cvD (l : List D) : (encBL (l.map cvD)).length ≤ 33 * l.length := by
  induction l with
  | nil => simp [encBL]
  | cons d l ih =>
    rw [List.map_cons, encBL_cons, List.length_append, List.length_cons]
    have h1 := len_cvL [cvI d.1, cvI d.2]
    have h2 := len_cvI d.1
    have h3 := len_cvI d.2
    have e : (encBL [cvI d.1, cvI d.2]).length = (encB (cvI d.1)).length + (encB (cvI d.2)).length := by simp [encBL]
    have e2 : encB (cvD d) = encB (cvL [cvI d.1, cvI d.2]) := rfl
    rw [e2]; omega
theorem opV_wf (o : OP) : wf (opV o) = true := by
  refine wf_cvL fun x hx => ?_
  simp only [List.mem_cons, List.not_mem_nil, or_false] at hx
  rcases hx with rfl | rfl | rfl | rfl | rfl | rfl | rfl | rfl | rfl | rfl | rfl | rfl <;> first
    | exact wf_cvI _
    | exact wf_cvT _
    | skip
  · refine wf_cvL fun x hx => ?_
    obtain ⟨d, _, rfl⟩ := List.mem_map.1 hx
    exact wf_cvL fun x hx => by
      simp only [List.mem_cons, List.not_mem_nil, or_false] at hx
      rcases hx with rfl | rfl <;> exact wf_cvI _
  · exact wf_cvL fun x hx => by
      simp only [List.mem_cons, List.not_mem_nil, or_false] at hx
      rcases hx with rfl | rfl
      · exact wf_cvI _
      · exact wf_cvT _
  · exact wf_cvL fun x hx => by
      simp only [List.mem_cons, List.not_mem_nil, or_false] at hx
      rcases hx with rfl | rfl | rfl <;> exact wf_cvI _
  · exact wf_cvL fun x hx => by
      simp only [List.mem_cons, List.not_mem_nil, or_false] at hx
      rcases hx with rfl | rfl | rfl <;> exact wf_cvI _
theorem opV_dp (o : OP) : dp (opV o) ≤ 3 := by
  refine dp_cvL fun x hx => ?_
  simp only [List.mem_cons, List.not_mem_nil, or_false] at hx
  rcases hx with rfl | rfl | rfl | rfl | rfl | rfl | rfl | rfl | rfl | rfl | rfl | rfl <;> first
    | (rw [dp_cvI]; decide)
    | (rw [dp_cvT]; decide)
    | skip
  · refine dp_cvL fun x hx => ?_
    obtain ⟨d, _, rfl⟩ := List.mem_map.1 hx
    exact dp_cvL (d := 0) fun x hx => by
      simp only [List.mem_cons, List.not_mem_nil, or_false] at hx
      rcases hx with rfl | rfl <;> (rw [dp_cvI]; decide)
  · exact Nat.le_trans (dp_cvL (d := 0) fun x hx => by
      simp only [List.mem_cons, List.not_mem_nil, or_false] at hx
      rcases hx with rfl | rfl
      · rw [dp_cvI]; decide
      · rw [dp_cvT]; decide) (by decide)
  · exact Nat.le_trans (dp_cvL (d := 0) fun x hx => by
      simp only [List.mem_cons, List.not_mem_nil, or_false] at hx
      rcases hx with rfl | rfl | rfl <;> (rw [dp_cvI]; decide)) (by decide)
  · exact Nat.le_trans (dp_cvL (d := 0) fun x hx => by
      simp only [List.mem_cons, List.not_mem_nil, or_false] at hx
      rcases hx with rfl | rfl | rfl <;> (rw [dp_cvI]; decide)) (by decide)
theorem opV_ok {o : OP} {B : Nat} (hB : B ≤ 1000000000) (h : Okp o) (f : Few B o) : Okv (opV o) := by
  have s := f.ky; have s2 := f.vl; have s3 := f.pn; have s4 := f.cx
  refine ok_cvL (by simp) fun x hx => ?_
  simp only [List.mem_cons, List.not_mem_nil, or_false] at hx
  rcases hx with rfl | rfl | rfl | rfl | rfl | rfl | rfl | rfl | rfl | rfl | rfl | rfl
  · exact ok_cvI h.dv
  · exact ok_cvI h.sq
  · exact ok_cvI h.tm
  · refine ok_cvL (by rw [List.length_map]; omega) fun x hx => ?_
    obtain ⟨d, hd, rfl⟩ := List.mem_map.1 hx
    exact ok_cvL (by simp) fun x hx => by
      simp only [List.mem_cons, List.not_mem_nil, or_false] at hx
      rcases hx with rfl | rfl
      · exact ok_cvI (h.cx d hd).1
      · exact ok_cvI (h.cx d hd).2
  · exact ok_cvL (by simp) fun x hx => by
      simp only [List.mem_cons, List.not_mem_nil, or_false] at hx
      rcases hx with rfl | rfl
      · exact ok_cvI h.pk
      · exact ok_cvT (by omega)
  · exact ok_cvI h.kd
  · exact ok_cvL (by simp) fun x hx => by
      simp only [List.mem_cons, List.not_mem_nil, or_false] at hx
      rcases hx with rfl | rfl | rfl
      · exact ok_cvI h.f1
      · exact ok_cvI h.f2
      · exact ok_cvI h.f3
  · exact ok_cvL (by simp) fun x hx => by
      simp only [List.mem_cons, List.not_mem_nil, or_false] at hx
      rcases hx with rfl | rfl | rfl
      · exact ok_cvI h.t1
      · exact ok_cvI h.t2
      · exact ok_cvI h.t3
  · exact ok_cvT (by omega)
  · exact ok_cvT (by omega)
  · exact ok_cvI h.n
  · exact ok_cvI (by split <;> decide)
theorem opV_len {o : OP} {B : Nat} (f : Few B o) : (encB (opV o)).length ≤ 36 * B + 1000 := by
  have s := f.ky; have s2 := f.vl; have s3 := f.pn; have s4 := f.cx
  have h0 := len_cvL [cvI o.dv, cvI o.sq, cvI o.tm, ctxV o, cvL [cvI o.pk, cvT o.pn], cvI o.kd, cvL [cvI o.f1, cvI o.f2, cvI o.f3], cvL [cvI o.t1, cvI o.t2, cvI o.t3], cvT o.ky, cvT o.vl, cvI o.n, cvI (if o.on = true then 1 else 0)]
  have a1 := len_cvI o.dv; have a2 := len_cvI o.sq; have a3 := len_cvI o.tm; have a4 := len_cvI o.pk; have a5 := len_cvT o.pn; have a6 := len_cvI o.kd
  have b1 := len_cvI o.f1; have b2 := len_cvI o.f2; have b3 := len_cvI o.f3; have b4 := len_cvI o.t1; have b5 := len_cvI o.t2; have b6 := len_cvI o.t3
  have c1 := len_cvT o.ky; have c2 := len_cvT o.vl; have c3 := len_cvI o.n; have c4 := len_cvI (if o.on = true then 1 else 0)
  have d1 := len_cvL (o.cx.map cvD); have d2 := len_cvD o.cx
  have d3 := len_cvL [cvI o.pk, cvT o.pn]; have d4 := len_cvL [cvI o.f1, cvI o.f2, cvI o.f3]; have d5 := len_cvL [cvI o.t1, cvI o.t2, cvI o.t3]
  have e : encB (opV o) = encB (cvL [cvI o.dv, cvI o.sq, cvI o.tm, ctxV o, cvL [cvI o.pk, cvT o.pn], cvI o.kd, cvL [cvI o.f1, cvI o.f2, cvI o.f3], cvL [cvI o.t1, cvI o.t2, cvI o.t3], cvT o.ky, cvT o.vl, cvI o.n, cvI (if o.on = true then 1 else 0)]) := rfl
  rw [e]
  have e2 : encB (ctxV o) = encB (cvL (o.cx.map cvD)) := rfl
  simp only [encBL, List.length_append, List.length_nil] at h0 d3 d4 d5
  rw [e2] at h0
  have m : 33 * o.cx.length ≤ 33 * B := Nat.mul_le_mul_left 33 s4
  omega
theorem decO_opV (o : OP) : decO (opV o).l = o := by
  have hc : (o.cx.map cvD).map decD = o.cx := by
    rw [List.map_map]
    refine (List.map_congr_left fun d _ => ?_).trans (List.map_id _)
    rfl
  obtain ⟨dv, sq, tm, cx, pk, pn, kd, f1, f2, f3, t1, t2, t3, ky, vl, n, on⟩ := o
  show (⟨dv, sq, tm, (cx.map cvD).map decD, pk, pn, kd, f1, f2, f3, t1, t2, t3, ky, vl, n, (if on = true then (1 : Int) else 0) == 1⟩ : OP) = _
  have h : (cx.map cvD).map decD = cx := hc
  rw [h]
  cases on <;> rfl
theorem opV_inj {a b : OP} (h : opV a = opV b) : a = b := by rw [← decO_opV a, ← decO_opV b, h]
end Go.Ops

/- OPS, 11: the reference's Decode. -/
namespace Go.Ops
set_option maxRecDepth 100000
set_option linter.unusedSimpArgs false
set_option linter.unusedVariables false
open Go Go.Am Go.Proofs Go.Seat Go.Vec Go.Cdc

theorem ints_bad (v : CV) (n : Nat) (hb : ¬ (v.k = 3 ∧ v.l.length = n)) (hl : v.l.length ≤ 1000000000) (h : (((CV.k v = (3 : Int)) → True) ∧ ((¬CV.k v = (3 : Int)) → True))) : CallC P G 55 [val v, int (↑n : Int)] [] (AOut.ret (AV.tup [nilS, Am.bool false])) [] := by
  by_cases c1 : (CV.k v = (3 : Int))
  · have h := h.1 c1
    have _ := h
    exact callC_of [kf (show (CV.k v != 3) = false from (congrArg Bool.not (beq_iff_eq.2 c1))), kv 14 (show Am.Sub (int (↑(List.length (encL (CV.l v))) : Int)) (int (↑(List.length (CV.l v)) : Int)) from (Sub.of_eq (by simp only [Go.Cdc.encL_length]))), kt (show ((↑(List.length (CV.l v)) : Int) != (↑n : Int)) = true from (congrArg Bool.not (decide_eq_false (by omega))))] (by kernel_rfl)
  · have h := h.2 c1
    have _ := h
    exact callC_of [kt (show (CV.k v != 3) = true from (congrArg Bool.not (beq_eq_false_iff_ne.2 c1))), kt (Eq.refl true)] (by kernel_rfl)


def inE (n : Nat) (o : AV) (k : Nat) : List AV := slots 41 [(1, int n), (2, .ptr 0 0), (4, nilS), (5, bool false), (6, o), (7, int k)]
def inSt0 (v : CV) (n : Nat) : St := { env := inE n (.sl 1 true []) 0, H := [.box (Cdc.enc v)] }
def inSt1 (v : CV) (n : Nat) (g : Nat) (cs : List Int) (k : Nat) : St := { env := inE n (.own 1 g 0 cs.length) k, H := [.box (Cdc.enc v), .arr g 1 false (ints cs)] }

theorem in0_bad (v x : CV) (n : Nat) (h0 : 0 < n) (hx : v.l[0]? = some x) (hk : ¬ x.k = 1) (h : True) : RunL P G none 0 (loopAt P 55 0) (inSt0 v n) AEx.ret (St.mk (slots 41 [(4, nilS), (5, Am.bool false)]) [AObj.box (Cdc.enc v)] []) := by
  have _ := h
  exact loop_exit [kt (show decide ((↑0 : Int) < (↑n : Int)) = true from (decide_eq_true (by omega))), ko (Orc.elem (Cdc.enc x)), kp (show (0 : Int) ≤ (0 : Int) ∧ (encL (CV.l v))[Int.toNat (↑0 : Int)]? = some (Cdc.enc x) from (by rw [Go.Cdc.encL_map]; exact el_nat hx)), kt (show (CV.k x != 1) = true from (congrArg Bool.not (decide_eq_false (by omega))))] (others 41 [4, 5]) 1 (by kernel_rfl)


theorem in1_bad (v x : CV) (n g : Nat) (cs : List Int) (k : Nat) (h0 : k < n) (hx : v.l[k]? = some x) (hk : ¬ x.k = 1) (h : True) : RunL P G none 0 (loopAt P 55 0) (inSt1 v n g cs k) AEx.ret (St.mk (slots 41 [(4, nilS), (5, Am.bool false)]) [AObj.box (Cdc.enc v), AObj.arr g 1 false (ints cs)] []) := by
  have _ := h
  exact loop_exit [kt (show decide ((↑k : Int) < (↑n : Int)) = true from (decide_eq_true (by omega))), ko (Orc.elem (Cdc.enc x)), kp (show (0 : Int) ≤ (↑k : Int) ∧ (encL (CV.l v))[Int.toNat (↑k : Int)]? = some (Cdc.enc x) from (by rw [Go.Cdc.encL_map]; exact el_nat hx)), kt (show (CV.k x != 1) = true from (congrArg Bool.not (decide_eq_false (by omega))))] (others 41 [4, 5]) 2 (by kernel_rfl)


theorem in1_end (v : CV) (n g : Nat) (cs : List Int) (k : Nat) (h0 : n ≤ k) (h : True) : RunL P G none 0 (loopAt P 55 0) (inSt1 v n g cs k) (AEx.exit 0) (St.mk (slots 41 [(4, nilS), (5, Am.bool false), (6, AV.own 1 g 0 (List.length cs))]) [AObj.box (Cdc.enc v), AObj.arr g 1 false (ints cs)] []) := by
  have _ := h
  exact loop_exit [kf (show decide ((↑k : Int) < (↑n : Int)) = false from (decide_eq_false (by omega)))] (others 41 [4, 5, 6]) 2 (by kernel_rfl)


theorem in0_w (v x : CV) (n : Nat) (h0 : 0 < n) (hn : n ≤ 1000) (hx : v.l[0]? = some x) (hk : x.k = 1) (ex : AEx) (s' : St) (h : RunL P G none 0 (loopAt P 55 0) (St.mk (slots 41 [(1, int (↑n : Int)), (2, AV.ptr 0 0), (4, nilS), (5, Am.bool false), (6, AV.own 1 0 0 1), (7, int 1)]) [AObj.box [int (CV.k v), int (CV.n v), str (CV.s v), AV.sl 4 false (encL (CV.l v))], AObj.arr 0 1 false [[int (CV.n x)]]] []) ex s') : RunL P G none 0 (loopAt P 55 0) (inSt0 v n) ex s' := by
  have hz1 : (0 : Int) ≤ (0 : Int) ∧ (encL (CV.l v))[Int.toNat (↑0 : Int)]? = some (Cdc.enc x) := (by rw [Go.Cdc.encL_map]; exact el_nat hx)
  exact loop_next [kt (show decide ((↑0 : Int) < (↑n : Int)) = true from (decide_eq_true (by omega))), ko (Orc.elem (Cdc.enc x)), kp hz1, kf (show (CV.k x != 1) = false from (congrArg Bool.not (decide_eq_true (by omega)))), ko (Orc.elem (Cdc.enc x)), kp hz1, kp (show [[int (CV.n x)]] ≠ [] from (by simp)), kp (show 8 ≤ 140737488355328 from (by omega))] (others 41 [1, 2, 4, 5, 6, 7]) 2 h (by kernel_rfl)


theorem in1_w (v x : CV) (n g : Nat) (cs : List Int) (k : Nat) (h0 : k < n) (hn : n ≤ 1000) (hcs : cs.length ≤ 1000) (hx : v.l[k]? = some x) (hk : x.k = 1) (ex : AEx) (s' : St) (h : RunL P G none 0 (loopAt P 55 0) (St.mk (slots 41 [(1, int (↑n : Int)), (2, AV.ptr 0 0), (4, nilS), (5, Am.bool false), (6, AV.own 1 (g + 1) 0 (List.length (cs ++ [CV.n x]))), (7, int (↑(k + 1) : Int))]) [AObj.box [int (CV.k v), int (CV.n v), str (CV.s v), AV.sl 4 false (encL (CV.l v))], AObj.arr (g + 1) 1 false (ints (cs ++ [CV.n x]))] []) ex s') : RunL P G none 0 (loopAt P 55 0) (inSt1 v n g cs k) ex s' := by
  have hz1 : (0 : Int) ≤ (↑k : Int) ∧ (encL (CV.l v))[Int.toNat (↑k : Int)]? = some (Cdc.enc x) := (by rw [Go.Cdc.encL_map]; exact el_nat hx)
  exact loop_next [kt (show decide ((↑k : Int) < (↑n : Int)) = true from (decide_eq_true (by omega))), ko (Orc.elem (Cdc.enc x)), kp hz1, kf (show (CV.k x != 1) = false from (congrArg Bool.not (decide_eq_true (by omega)))), ko (Orc.elem (Cdc.enc x)), ko (Orc.hp (some 39) (AV.own 1 (g + 1) 0 (List.length (cs ++ [CV.n x]))) [AObj.box [int (CV.k v), int (CV.n v), str (CV.s v), AV.sl 4 false (encL (CV.l v))], AObj.arr (g + 1) 1 false (ints (cs ++ [CV.n x]))]), kp hz1, kp (show Am.Sub (AV.own 1 (g + 1) 0 (List.length cs + 1)) (AV.own 1 (g + 1) 0 (List.length (cs ++ [CV.n x]))) from (Sub.of_eq (by simp))), kp (show Am.HSub [AObj.box [int (CV.k v), int (CV.n v), str (CV.s v), AV.sl 4 false (encL (CV.l v))], AObj.arr (g + 1) 1 false (ints cs ++ [[int (CV.n x)]])] [AObj.box [int (CV.k v), int (CV.n v), str (CV.s v), AV.sl 4 false (encL (CV.l v))], AObj.arr (g + 1) 1 false (ints (cs ++ [CV.n x]))] from (⟨.inl rfl, .inl (by simp only [Go.Vec.ints_append, Go.Vec.ints_one]), trivial⟩)), kp (show g = g from (rfl)), kp (show List.length cs = List.length (ints cs) from ((Go.Vec.ints_length _).symm)), kp (show (List.length cs + 1) * 8 ≤ 140737488355328 from (by omega)), kv 23 (show Am.Sub (int (IntKind.wrap IntKind.i64 ((↑k : Int) + 1))) (int (↑(k + 1) : Int)) from (Sub.of_wrap (by omega) (by omega) (by omega)))] (others 41 [1, 2, 4, 5, 6, 7]) 2 h (by kernel_rfl)


def isI (c : CV) : Bool := decide (c.k = 1)
theorem nN_snoc {l : List CV} {k : Nat} (h : k < l.length) : (l.take (k + 1)).map CV.n = (l.take k).map CV.n ++ [l[k].n] := by
  rw [List.take_add_one, List.getElem?_eq_getElem h, List.map_append]; rfl
theorem in1_loop (v : CV) (n : Nat) (hn : n ≤ 1000) (hl : v.l.length = n) : ∀ (m k g : Nat), n - k = m → k ≤ n →
    ((v.l.drop k).all isI = true → ∃ g', RunL P G none 0 (loopAt P 55 0) (inSt1 v n g ((v.l.take k).map CV.n) k) (.exit 0) { env := slots 41 [(4, nilS), (5, bool false), (6, .own 1 g' 0 (v.l.map CV.n).length)], H := [.box (Cdc.enc v), .arr g' 1 false (ints (v.l.map CV.n))] }) ∧
    ((v.l.drop k).all isI = false → RunL P G none 0 (loopAt P 55 0) (inSt1 v n g ((v.l.take k).map CV.n) k) .ret { env := slots 41 [(4, nilS), (5, bool false)], H := [.box (Cdc.enc v), .gone] }) := by
  intro m
  induction m with
  | zero =>
    intro k g hm hk
    have e : v.l.take k = v.l := List.take_of_length_le (by omega)
    have e2 : v.l.drop k = [] := List.drop_of_length_le (by omega)
    rw [e, e2]
    exact ⟨fun _ => ⟨g, in1_end v n g _ k (by omega) trivial⟩, fun h => by cases h⟩
  | succ m ih =>
    intro k g hm hk
    have hlt : k < v.l.length := by omega
    have ed := List.drop_eq_getElem_cons hlt
    obtain ⟨i1, i2⟩ := ih (k + 1) (g + 1) (by omega) (by omega)
    have step : ∀ {ex : AEx} {s' : St}, v.l[k].k = 1 → RunL P G none 0 (loopAt P 55 0) (inSt1 v n (g + 1) ((v.l.take (k + 1)).map CV.n) (k + 1)) ex s' → RunL P G none 0 (loopAt P 55 0) (inSt1 v n g ((v.l.take k).map CV.n) k) ex s' := fun h1 h2 => by
      refine in1_w v v.l[k] n g _ k (by omega) hn (by simp; omega) (List.getElem?_eq_getElem hlt) h1 _ _ ?_
      rw [nN_snoc hlt] at h2
      exact h2
    rw [ed]
    by_cases h1 : v.l[k].k = 1
    · have e1 : (v.l[k] :: v.l.drop (k + 1)).all isI = (v.l.drop (k + 1)).all isI := by rw [List.all_cons, show isI v.l[k] = true from decide_eq_true h1]; rfl
      rw [e1]
      exact ⟨fun h => let ⟨g', q⟩ := i1 h; ⟨g', step h1 q⟩, fun h => step h1 (i2 h)⟩
    · have e1 : (v.l[k] :: v.l.drop (k + 1)).all isI = false := by rw [List.all_cons, show isI v.l[k] = false from decide_eq_false h1]; rfl
      rw [e1]
      exact ⟨fun h => (by cases h), fun _ => RunL.postH (in1_bad v v.l[k] n g _ k (by omega) (List.getElem?_eq_getElem hlt) h1 trivial) ⟨.inl rfl, .inr trivial, trivial⟩⟩

theorem ints_ok (v : CV) (n g : Nat) (cs : List Int) (hk : v.k = 3) (hn : v.l.length = n) (hL : RunL P G none 0 (loopAt P 55 0) (inSt0 v n) (.exit 0) { env := slots 41 [(4, nilS), (5, bool false), (6, .own 1 g 0 cs.length)], H := [.box (Cdc.enc v), .arr g 1 false (ints cs)] }) (h : True) : CallC P G 55 [val v, int (↑n : Int)] [] (AOut.ret (AV.tup [AV.sl 1 false (ints cs), Am.bool true])) [] := by
  have _ := h
  exact callC_of [kf (show (CV.k v != 3) = false from (congrArg Bool.not (decide_eq_true (by omega)))), kv 14 (show Am.Sub (int (↑(List.length (encL (CV.l v))) : Int)) (int (↑(List.length (CV.l v)) : Int)) from (Sub.of_eq (by simp only [Go.Cdc.encL_length]))), kf (show ((↑(List.length (CV.l v)) : Int) != (↑n : Int)) = false from (congrArg Bool.not (decide_eq_true (by omega)))), kl [0, 3, 8, 9, 10, 11, 12, 13, 14, 15, 16, 17, 18, 19, 20, 21, 22, 23, 24, 25, 26, 27, 28, 29, 30, 31, 32, 33, 34, 35, 36, 37, 38, 39, 40] 1 (@hL ), ko (Orc.frz (ints cs)), kp (show g = g from (rfl)), kp (show List.take (List.length cs) (List.drop 0 (ints cs)) = ints cs from (Go.Vec.ints_all _)), kp (show List.length (ints cs) = List.length cs from (Go.Vec.ints_length _)), kp (show ∀ (c : List AV), c ∈ ints cs → List.all c AV.pureB = true from (Go.Vec.ints_pure _))] (by kernel_rfl)


theorem ints_x0 (v : CV) (n : Nat) (hk : v.k = 3) (hn : v.l.length = n) (hL : RunL P G none 0 (loopAt P 55 0) (inSt0 v n) .ret { env := slots 41 [(4, nilS), (5, bool false)], H := [.box (Cdc.enc v)] }) (h : True) : CallC P G 55 [val v, int (↑n : Int)] [] (AOut.ret (AV.tup [nilS, Am.bool false])) [] := by
  have _ := h
  exact callC_of [kf (show (CV.k v != 3) = false from (congrArg Bool.not (decide_eq_true (by omega)))), kv 14 (show Am.Sub (int (↑(List.length (encL (CV.l v))) : Int)) (int (↑(List.length (CV.l v)) : Int)) from (Sub.of_eq (by simp only [Go.Cdc.encL_length]))), kf (show ((↑(List.length (CV.l v)) : Int) != (↑n : Int)) = false from (congrArg Bool.not (decide_eq_true (by omega)))), kl [0, 3, 8, 9, 10, 11, 12, 13, 14, 15, 16, 17, 18, 19, 20, 21, 22, 23, 24, 25, 26, 27, 28, 29, 30, 31, 32, 33, 34, 35, 36, 37, 38, 39, 40] 1 (@hL )] (by kernel_rfl)


theorem ints_x1 (v : CV) (n : Nat) (hk : v.k = 3) (hn : v.l.length = n) (hL : RunL P G none 0 (loopAt P 55 0) (inSt0 v n) .ret { env := slots 41 [(4, nilS), (5, bool false)], H := [.box (Cdc.enc v), .gone] }) (h : True) : CallC P G 55 [val v, int (↑n : Int)] [] (AOut.ret (AV.tup [nilS, Am.bool false])) [] := by
  have _ := h
  exact callC_of [kf (show (CV.k v != 3) = false from (congrArg Bool.not (decide_eq_true (by omega)))), kv 14 (show Am.Sub (int (↑(List.length (encL (CV.l v))) : Int)) (int (↑(List.length (CV.l v)) : Int)) from (Sub.of_eq (by simp only [Go.Cdc.encL_length]))), kf (show ((↑(List.length (CV.l v)) : Int) != (↑n : Int)) = false from (congrArg Bool.not (decide_eq_true (by omega)))), kl [0, 3, 8, 9, 10, 11, 12, 13, 14, 15, 16, 17, 18, 19, 20, 21, 22, 23, 24, 25, 26, 27, 28, 29, 30, 31, 32, 33, 34, 35, 36, 37, 38, 39, 40] 1 (@hL )] (by kernel_rfl)


/-- Is a value a list of so many numbers? -/
def okI (v : CV) (n : Nat) : Bool := decide (v.k = 3) && decide (v.l.length = n) && v.l.all isI
theorem ints_yes (v : CV) (n : Nat) (h0 : 0 < n) (hn : n ≤ 1000) (h : okI v n = true) : CallC P G 55 [val v, int n] [] (.ret (.tup [.sl 1 false (ints (v.l.map CV.n)), bool true])) [] := by
  simp only [okI, Bool.and_eq_true, decide_eq_true_eq] at h
  obtain ⟨⟨h1, h2⟩, h3⟩ := h
  have hlt : 0 < v.l.length := by omega
  have ed := List.drop_eq_getElem_cons hlt
  rw [List.drop_zero] at ed
  rw [ed] at h3
  simp only [List.all_cons, Bool.and_eq_true] at h3
  obtain ⟨g', q⟩ := (in1_loop v n hn h2 (n - 1) 1 0 rfl h0).1 h3.2
  refine ints_ok v n g' _ h1 h2 (in0_w v v.l[0] n h0 hn (List.getElem?_eq_getElem hlt) (of_decide_eq_true h3.1) _ _ ?_) trivial
  have e : (v.l.take 1).map CV.n = [v.l[0].n] := by simpa using nN_snoc hlt
  rw [e] at q
  exact q
theorem ints_no (v : CV) (n : Nat) (h0 : 0 < n) (hn : n ≤ 1000) (hl : v.l.length ≤ 1000000000) (h : okI v n = false) : CallC P G 55 [val v, int n] [] (.ret (.tup [nilS, bool false])) [] := by
  by_cases hb : v.k = 3 ∧ v.l.length = n
  · obtain ⟨h1, h2⟩ := hb
    have h3 : v.l.all isI = false := by simpa [okI, h1, h2] using h
    have hlt : 0 < v.l.length := by omega
    have ed := List.drop_eq_getElem_cons hlt
    rw [List.drop_zero] at ed
    by_cases hx : v.l[0].k = 1
    · have h4 : (v.l.drop 1).all isI = false := by
        rw [ed] at h3
        simpa [isI, hx] using h3
      refine ints_x1 v n h1 h2 (in0_w v v.l[0] n h0 hn (List.getElem?_eq_getElem hlt) hx _ _ ?_) trivial
      have q := (in1_loop v n hn h2 (n - 1) 1 0 rfl h0).2 h4
      have e : (v.l.take 1).map CV.n = [v.l[0].n] := by simpa using nN_snoc hlt
      rw [e] at q
      exact q
    · exact ints_x0 v n h1 h2 (in0_bad v v.l[0] n h0 (List.getElem?_eq_getElem hlt) hx trivial) trivial
  · exact ints_bad v n hb hl ⟨fun _ => trivial, fun _ => trivial⟩

end Go.Ops

/- OPS, 12: the reference's Decode. -/
namespace Go.Ops
set_option maxRecDepth 100000
set_option linter.unusedSimpArgs false
set_option linter.unusedVariables false
open Go Go.Am Go.Proofs Go.Seat Go.Vec Go.Cdc

theorem rd_x (b : List UInt8) (v : CV) (e : Int) (he : ¬ e = 0) (hd : CallC P G 54 [byt b] [] (.ret (.tup [val v, int e])) []) (h : True) : CallC P G 21 [byt b] [] (AOut.ret (AV.tup [op zop, int e])) [] := by
  have _ := h
  exact CallC.out ((show CallC P G 21 [byt b] [] (AOut.ret (AV.tup [AV.agg [int 0, int 0, int 0, nilS, int 0, str (ByteArray.mk #[]), int 0, int 0, int 0, int 0, int 0, int 0, int 0, str (ByteArray.mk #[]), str (ByteArray.mk #[]), int 0, Am.bool false], int e])) [] from callC_of [kc [] (@hd ), kt (show (e != 0) = true from (congrArg Bool.not (decide_eq_false (by omega))))] (by kernel_rfl))) (Sub.tups ⟨(Sub.aggs ⟨Sub.refl _, Sub.refl _, Sub.refl _, Sub.nil _, Sub.refl _, Sub.refl _, Sub.refl _, Sub.refl _, Sub.refl _, Sub.refl _, Sub.refl _, Sub.refl _, Sub.refl _, Sub.refl _, Sub.refl _, Sub.refl _, Sub.refl _, trivial⟩), Sub.refl _, trivial⟩)


theorem rd_y (b : List UInt8) (v : CV) (hb : ¬ (v.k = 3 ∧ v.l.length = 12)) (hl : v.l.length ≤ 1000000000) (hd : CallC P G 54 [byt b] [] (.ret (.tup [val v, int 0])) []) (h : (((CV.k v = (3 : Int)) → True) ∧ ((¬CV.k v = (3 : Int)) → True))) : CallC P G 21 [byt b] [] (AOut.ret (AV.tup [op zop, int 170])) [] := by
  have hz0 := (@hd )
  by_cases c1 : (CV.k v = (3 : Int))
  · have h := h.1 c1
    have _ := h
    exact CallC.out ((show CallC P G 21 [byt b] [] (AOut.ret (AV.tup [AV.agg [int 0, int 0, int 0, nilS, int 0, str (ByteArray.mk #[]), int 0, int 0, int 0, int 0, int 0, int 0, int 0, str (ByteArray.mk #[]), str (ByteArray.mk #[]), int 0, Am.bool false], int 170])) [] from callC_of [kc [] hz0, kf (Eq.refl false), kf (show (CV.k v != 3) = false from (congrArg Bool.not (beq_iff_eq.2 c1))), kv 29 (show Am.Sub (int (↑(List.length (encL (CV.l v))) : Int)) (int (↑(List.length (CV.l v)) : Int)) from (Sub.of_eq (by simp only [Go.Cdc.encL_length]))), kt (show ((↑(List.length (CV.l v)) : Int) != 12) = true from (congrArg Bool.not (decide_eq_false (by omega))))] (by kernel_rfl))) (Sub.tups ⟨(Sub.aggs ⟨Sub.refl _, Sub.refl _, Sub.refl _, Sub.nil _, Sub.refl _, Sub.refl _, Sub.refl _, Sub.refl _, Sub.refl _, Sub.refl _, Sub.refl _, Sub.refl _, Sub.refl _, Sub.refl _, Sub.refl _, Sub.refl _, Sub.refl _, trivial⟩), Sub.refl _, trivial⟩)
  · have h := h.2 c1
    have _ := h
    exact CallC.out ((show CallC P G 21 [byt b] [] (AOut.ret (AV.tup [AV.agg [int 0, int 0, int 0, nilS, int 0, str (ByteArray.mk #[]), int 0, int 0, int 0, int 0, int 0, int 0, int 0, str (ByteArray.mk #[]), str (ByteArray.mk #[]), int 0, Am.bool false], int 170])) [] from callC_of [kc [] hz0, kf (Eq.refl false), kt (show (CV.k v != 3) = true from (congrArg Bool.not (beq_eq_false_iff_ne.2 c1))), kt (Eq.refl true)] (by kernel_rfl))) (Sub.tups ⟨(Sub.aggs ⟨Sub.refl _, Sub.refl _, Sub.refl _, Sub.nil _, Sub.refl _, Sub.refl _, Sub.refl _, Sub.refl _, Sub.refl _, Sub.refl _, Sub.refl _, Sub.refl _, Sub.refl _, Sub.refl _, Sub.refl _, Sub.refl _, Sub.refl _, trivial⟩), Sub.refl _, trivial⟩)


def zcl : List AV := [int 0, int 0, int 0, nilS, int 0, str ⟨#[]⟩, int 0, int 0, int 0, int 0, int 0, int 0, int 0, str ⟨#[]⟩, str ⟨#[]⟩, int 0, bool false]
def ocl (a b c : Int) (cx : AV) (k : Int) (s t : ByteArray) (n : Int) (on : Bool) : List AV := [int a, int b, int c, cx, int 0, str ⟨#[]⟩, int k, int 0, int 0, int 0, int 0, int 0, int 0, str s, str t, int n, bool on]
def rdE (b : List UInt8) (k : Nat) : List AV := slots 198 [(0, byt b), (2, .ptr 0 0), (3, int 0), (4, .ptr 1 0), (6, .ptr 2 0), (7, int k)]
abbrev rdX (b : List UInt8) : List AV := slots 198 [(0, byt b), (2, .ptr 0 0), (3, int 0), (4, .ptr 1 0), (6, .ptr 2 0)]
structure OC where
  a : Int
  b : Int
  c : Int
  k : Int
  s : ByteArray
  t : ByteArray
  n : Int
  on : Bool
def OC.cl (o : OC) (cx : AV) : List AV := ocl o.a o.b o.c cx o.k o.s o.t o.n o.on
def rdSt0 (b : List UInt8) (v : CV) (o : OC) : St := { env := rdE b 0, H := [.box zcl, .box (Cdc.enc v), .box (o.cl nilS)] }
def rdSt1 (b : List UInt8) (v : CV) (o : OC) (g : Nat) (ds : List D) (k : Nat) : St := { env := rdE b k, H := [.box zcl, .box (Cdc.enc v), .box (o.cl (.own 3 g 0 ds.length)), .arr g 2 false (encs ds)] }

theorem rl0_end (b : List UInt8) (v x : CV) (o : OC) (h3 : v.l[3]? = some x) (h0 : x.l.length = 0) (h : True) : RunL P G none 0 (loopAt P 21 0) (rdSt0 b v o) (AEx.exit 0) (St.mk (slots 198 [(0, byt b), (2, AV.ptr 0 0), (3, int 0), (4, AV.ptr 1 0), (6, AV.ptr 2 0)]) [AObj.box zcl, AObj.box (Cdc.enc v), AObj.box (OC.cl o nilS)] []) := by
  have _ := h
  exact loop_exit [ko (Orc.elem (Cdc.enc x)), kp (show (0 : Int) ≤ (3 : Int) ∧ (encL (CV.l v))[Int.toNat 3]? = some (Cdc.enc x) from (by rw [Go.Cdc.encL_map]; exact el_nat h3)), kv 82 (show Am.Sub (int (↑(List.length (encL (CV.l x))) : Int)) (int (↑(List.length (CV.l x)) : Int)) from (Sub.of_eq (by simp only [Go.Cdc.encL_length]))), kf (show decide ((↑0 : Int) < (↑(List.length (CV.l x)) : Int)) = false from (decide_eq_false (by omega)))] (others 198 [0, 2, 3, 4, 6]) 3 (by kernel_rfl)


theorem rl1_end (b : List UInt8) (v x : CV) (o : OC) (g : Nat) (ds : List D) (k : Nat) (h3 : v.l[3]? = some x) (h0 : x.l.length ≤ k) (h : True) : RunL P G none 0 (loopAt P 21 0) (rdSt1 b v o g ds k) (AEx.exit 0) (St.mk (slots 198 [(0, byt b), (2, AV.ptr 0 0), (3, int 0), (4, AV.ptr 1 0), (6, AV.ptr 2 0)]) [AObj.box zcl, AObj.box (Cdc.enc v), AObj.box (OC.cl o (AV.own 3 g 0 (List.length ds))), AObj.arr g 2 false (encs ds)] []) := by
  have _ := h
  exact loop_exit [ko (Orc.elem (Cdc.enc x)), kp (show (0 : Int) ≤ (3 : Int) ∧ (encL (CV.l v))[Int.toNat 3]? = some (Cdc.enc x) from (by rw [Go.Cdc.encL_map]; exact el_nat h3)), kv 82 (show Am.Sub (int (↑(List.length (encL (CV.l x))) : Int)) (int (↑(List.length (CV.l x)) : Int)) from (Sub.of_eq (by simp only [Go.Cdc.encL_length]))), kf (show decide ((↑k : Int) < (↑(List.length (CV.l x)) : Int)) = false from (decide_eq_false (by omega)))] (others 198 [0, 2, 3, 4, 6]) 4 (by kernel_rfl)


theorem rl0_bad (b : List UInt8) (v x y : CV) (o : OC) (h3 : v.l[3]? = some x) (h0 : 0 < x.l.length) (hy : x.l[0]? = some y) (hv : CallC P G 55 [val y, int 2] [] (.ret (.tup [nilS, bool false])) []) (h : True) : RunL P G none 0 (loopAt P 21 0) (rdSt0 b v o) AEx.ret (St.mk (slots 198 [(2, AV.ptr 0 0), (3, int 170)]) [AObj.box zcl, AObj.box (Cdc.enc v), AObj.box (OC.cl o nilS)] []) := by
  have hz0 : (0 : Int) ≤ (3 : Int) ∧ (encL (CV.l v))[Int.toNat 3]? = some (Cdc.enc x) := (by rw [Go.Cdc.encL_map]; exact el_nat h3)
  have _ := h
  exact loop_exit [ko (Orc.elem (Cdc.enc x)), kp hz0, kv 82 (show Am.Sub (int (↑(List.length (encL (CV.l x))) : Int)) (int (↑(List.length (CV.l x)) : Int)) from (Sub.of_eq (by simp only [Go.Cdc.encL_length]))), kt (show decide ((↑0 : Int) < (↑(List.length (CV.l x)) : Int)) = true from (decide_eq_true (by omega))), ko (Orc.elem (Cdc.enc x)), ko (Orc.elem (Cdc.enc y)), kp hz0, kp (show (0 : Int) ≤ (0 : Int) ∧ (encL (CV.l x))[Int.toNat (↑0 : Int)]? = some (Cdc.enc y) from (by rw [Go.Cdc.encL_map]; exact el_nat hy)), kc [] (@hv ), kt (Eq.refl true)] (others 198 [2, 3]) 3 (by kernel_rfl)


theorem rl1_bad (b : List UInt8) (v x y : CV) (o : OC) (g : Nat) (ds : List D) (k : Nat) (h3 : v.l[3]? = some x) (h0 : k < x.l.length) (hy : x.l[k]? = some y) (hv : CallC P G 55 [val y, int 2] [] (.ret (.tup [nilS, bool false])) []) (h : True) : RunL P G none 0 (loopAt P 21 0) (rdSt1 b v o g ds k) AEx.ret (St.mk (slots 198 [(2, AV.ptr 0 0), (3, int 170)]) [AObj.box zcl, AObj.box (Cdc.enc v), AObj.box (OC.cl o (AV.own 3 g 0 (List.length ds))), AObj.arr g 2 false (encs ds)] []) := by
  have hz0 : (0 : Int) ≤ (3 : Int) ∧ (encL (CV.l v))[Int.toNat 3]? = some (Cdc.enc x) := (by rw [Go.Cdc.encL_map]; exact el_nat h3)
  have _ := h
  exact loop_exit [ko (Orc.elem (Cdc.enc x)), kp hz0, kv 82 (show Am.Sub (int (↑(List.length (encL (CV.l x))) : Int)) (int (↑(List.length (CV.l x)) : Int)) from (Sub.of_eq (by simp only [Go.Cdc.encL_length]))), kt (show decide ((↑k : Int) < (↑(List.length (CV.l x)) : Int)) = true from (decide_eq_true (by omega))), ko (Orc.elem (Cdc.enc x)), ko (Orc.elem (Cdc.enc y)), kp hz0, kp (show (0 : Int) ≤ (↑k : Int) ∧ (encL (CV.l x))[Int.toNat (↑k : Int)]? = some (Cdc.enc y) from (by rw [Go.Cdc.encL_map]; exact el_nat hy)), kc [] (@hv ), kt (Eq.refl true)] (others 198 [2, 3]) 4 (by kernel_rfl)


theorem rl0_w (b : List UInt8) (v x y : CV) (p q : Int) (o : OC) (h3 : v.l[3]? = some x) (h0 : 0 < x.l.length) (hl : x.l.length ≤ 1000000000) (hy : x.l[0]? = some y) (hv : CallC P G 55 [val y, int 2] [] (.ret (.tup [.sl 1 false [[int p], [int q]], bool true])) []) (ex : AEx) (s' : St) (h : RunL P G none 0 (loopAt P 21 0) (St.mk (slots 198 [(0, AV.sl 1 false (bys b)), (2, AV.ptr 0 0), (3, int 0), (4, AV.ptr 1 0), (6, AV.ptr 2 0), (7, int 1)]) [AObj.box [int 0, int 0, int 0, nilS, int 0, str (ByteArray.mk #[]), int 0, int 0, int 0, int 0, int 0, int 0, int 0, str (ByteArray.mk #[]), str (ByteArray.mk #[]), int 0, Am.bool false], AObj.box [int (CV.k v), int (CV.n v), str (CV.s v), AV.sl 4 false (encL (CV.l v))], AObj.box [int (OC.a o), int (OC.b o), int (OC.c o), AV.own 3 0 0 1, int 0, str (ByteArray.mk #[]), int (OC.k o), int 0, int 0, int 0, int 0, int 0, int 0, str (OC.s o), str (OC.t o), int (OC.n o), Am.bool (OC.on o)], AObj.arr 0 2 false [[int p, int q]]] []) ex s') : RunL P G none 0 (loopAt P 21 0) (rdSt0 b v o) ex s' := by
  have hz0 : (0 : Int) ≤ (3 : Int) ∧ (encL (CV.l v))[Int.toNat 3]? = some (Cdc.enc x) := (by rw [Go.Cdc.encL_map]; exact el_nat h3)
  exact loop_next [ko (Orc.elem (Cdc.enc x)), kp hz0, kv 82 (show Am.Sub (int (↑(List.length (encL (CV.l x))) : Int)) (int (↑(List.length (CV.l x)) : Int)) from (Sub.of_eq (by simp only [Go.Cdc.encL_length]))), kt (show decide ((↑0 : Int) < (↑(List.length (CV.l x)) : Int)) = true from (decide_eq_true (by omega))), ko (Orc.elem (Cdc.enc x)), ko (Orc.elem (Cdc.enc y)), kp hz0, kp (show (0 : Int) ≤ (0 : Int) ∧ (encL (CV.l x))[Int.toNat (↑0 : Int)]? = some (Cdc.enc y) from (by rw [Go.Cdc.encL_map]; exact el_nat hy)), kc [] (@hv ), kf (Eq.refl false), ko (Orc.elem [int p]), ko (Orc.elem [int q]), kp (show (0 : Int) ≤ (0 : Int) ∧ [[int p], [int q]][Int.toNat 0]? = some [int p] from (⟨by decide, rfl⟩)), kp (show (0 : Int) ≤ (1 : Int) ∧ [[int p], [int q]][Int.toNat 1]? = some [int q] from (⟨by decide, rfl⟩)), kp (show [[int p, int q]] ≠ [] from (by simp)), kp (show 16 ≤ 140737488355328 from (by omega))] (others 198 [0, 2, 3, 4, 6, 7]) 4 h (by kernel_rfl)


theorem rl1_w (b : List UInt8) (v x y : CV) (p q : Int) (o : OC) (g : Nat) (ds : List D) (k : Nat) (h3 : v.l[3]? = some x) (h0 : k < x.l.length) (hl : x.l.length ≤ 1000000000) (hds : ds.length ≤ 1000000000) (hy : x.l[k]? = some y) (hv : CallC P G 55 [val y, int 2] [] (.ret (.tup [.sl 1 false [[int p], [int q]], bool true])) []) (ex : AEx) (s' : St) (h : RunL P G none 0 (loopAt P 21 0) (St.mk (slots 198 [(0, AV.sl 1 false (bys b)), (2, AV.ptr 0 0), (3, int 0), (4, AV.ptr 1 0), (6, AV.ptr 2 0), (7, int (↑(k + 1) : Int))]) [AObj.box [int 0, int 0, int 0, nilS, int 0, str (ByteArray.mk #[]), int 0, int 0, int 0, int 0, int 0, int 0, int 0, str (ByteArray.mk #[]), str (ByteArray.mk #[]), int 0, Am.bool false], AObj.box [int (CV.k v), int (CV.n v), str (CV.s v), AV.sl 4 false (encL (CV.l v))], AObj.box [int (OC.a o), int (OC.b o), int (OC.c o), AV.own 3 (g + 1) 0 (List.length ds + 1), int 0, str (ByteArray.mk #[]), int (OC.k o), int 0, int 0, int 0, int 0, int 0, int 0, str (OC.s o), str (OC.t o), int (OC.n o), Am.bool (OC.on o)], AObj.arr (g + 1) 2 false (encs ds ++ [[int p, int q]])] []) ex s') : RunL P G none 0 (loopAt P 21 0) (rdSt1 b v o g ds k) ex s' := by
  have hz0 : (0 : Int) ≤ (3 : Int) ∧ (encL (CV.l v))[Int.toNat 3]? = some (Cdc.enc x) := (by rw [Go.Cdc.encL_map]; exact el_nat h3)
  exact loop_next [ko (Orc.elem (Cdc.enc x)), kp hz0, kv 82 (show Am.Sub (int (↑(List.length (encL (CV.l x))) : Int)) (int (↑(List.length (CV.l x)) : Int)) from (Sub.of_eq (by simp only [Go.Cdc.encL_length]))), kt (show decide ((↑k : Int) < (↑(List.length (CV.l x)) : Int)) = true from (decide_eq_true (by omega))), ko (Orc.elem (Cdc.enc x)), ko (Orc.elem (Cdc.enc y)), kp hz0, kp (show (0 : Int) ≤ (↑k : Int) ∧ (encL (CV.l x))[Int.toNat (↑k : Int)]? = some (Cdc.enc y) from (by rw [Go.Cdc.encL_map]; exact el_nat hy)), kc [] (@hv ), kf (Eq.refl false), ko (Orc.elem [int p]), ko (Orc.elem [int q]), kp (show (0 : Int) ≤ (0 : Int) ∧ [[int p], [int q]][Int.toNat 0]? = some [int p] from (⟨by decide, rfl⟩)), kp (show (0 : Int) ≤ (1 : Int) ∧ [[int p], [int q]][Int.toNat 1]? = some [int q] from (⟨by decide, rfl⟩)), kp (show g = g from (rfl)), kp (show List.length ds = List.length (encs ds) from ((Go.Vec.encs_length _).symm)), kp (show (List.length ds + 1) * 16 ≤ 140737488355328 from (by omega)), kv 85 (show Am.Sub (int (IntKind.wrap IntKind.i64 ((↑k : Int) + 1))) (int (↑(k + 1) : Int)) from (Sub.of_wrap (by omega) (by omega) (by omega)))] (others 198 [0, 2, 3, 4, 6, 7]) 4 h (by kernel_rfl)


end Go.Ops

/- OPS, 13: the loop of the reference's Decode. -/
namespace Go.Ops
set_option maxRecDepth 100000
set_option linter.unusedSimpArgs false
set_option linter.unusedVariables false
open Go Go.Am Go.Proofs Go.Seat Go.Vec Go.Cdc

theorem okI2 {y : CV} (h : okI y 2 = true) : y.l.map CV.n = [(at_ y.l 0).n, (at_ y.l 1).n] := by
  simp only [okI, Bool.and_eq_true, decide_eq_true_eq] at h
  have h2 := h.1.2
  match hq : y.l, h2 with
  | [a, b], _ => rfl
theorem int2_yes {y : CV} (h : okI y 2 = true) : CallC P G 55 [val y, int 2] [] (.ret (.tup [.sl 1 false [[int (at_ y.l 0).n], [int (at_ y.l 1).n]], bool true])) [] := by
  have := ints_yes y 2 (by decide) (by decide) h
  rw [okI2 h] at this
  exact this
theorem okI3 {y : CV} (h : okI y 3 = true) : y.l.map CV.n = [(at_ y.l 0).n, (at_ y.l 1).n, (at_ y.l 2).n] := by
  simp only [okI, Bool.and_eq_true, decide_eq_true_eq] at h
  have h2 := h.1.2
  match hq : y.l, h2 with
  | [a, b, c], _ => rfl
theorem int3_yes {y : CV} (h : okI y 3 = true) : CallC P G 55 [val y, int 3] [] (.ret (.tup [.sl 1 false [[int (at_ y.l 0).n], [int (at_ y.l 1).n], [int (at_ y.l 2).n]], bool true])) [] := by
  have := ints_yes y 3 (by decide) (by decide) h
  rw [okI3 h] at this
  exact this
def pairOk (y : CV) : Bool := okI y 2
abbrev rdR : List AV := slots 198 [(2, .ptr 0 0), (3, int 170)]
theorem decD_snoc {C : List CV} {k : Nat} (h : k < C.length) : (C.take (k + 1)).map decD = (C.take k).map decD ++ [decD C[k]] := by
  rw [List.take_add_one, List.getElem?_eq_getElem h, List.map_append]; rfl
theorem rl1_loop (b : List UInt8) (v x : CV) (o : OC) (h3 : v.l[3]? = some x) (hl : x.l.length ≤ 1000000000) (hy : ∀ y ∈ x.l, y.l.length ≤ 1000000000) : ∀ (m k g : Nat), x.l.length - k = m → k ≤ x.l.length →
    ((x.l.drop k).all pairOk = true → ∃ g', RunL P G none 0 (loopAt P 21 0) (rdSt1 b v o g ((x.l.take k).map decD) k) (.exit 0) { env := rdX b, H := [.box zcl, .box (Cdc.enc v), .box (o.cl (.own 3 g' 0 (x.l.map decD).length)), .arr g' 2 false (encs (x.l.map decD))] }) ∧
    ((x.l.drop k).all pairOk = false → RunL P G none 0 (loopAt P 21 0) (rdSt1 b v o g ((x.l.take k).map decD) k) .ret { env := rdR, H := [.box zcl, .box (Cdc.enc v), .gone, .gone] }) := by
  intro m
  induction m with
  | zero =>
    intro k g hm hk
    have e : x.l.take k = x.l := List.take_of_length_le (by omega)
    have e2 : x.l.drop k = [] := List.drop_of_length_le (by omega)
    rw [e, e2]
    exact ⟨fun _ => ⟨g, rl1_end b v x o g _ k h3 (by omega) trivial⟩, fun h => by cases h⟩
  | succ m ih =>
    intro k g hm hk
    have hlt : k < x.l.length := by omega
    have ed := List.drop_eq_getElem_cons hlt
    have hx := List.getElem?_eq_getElem hlt
    obtain ⟨i1, i2⟩ := ih (k + 1) (g + 1) (by omega) (by omega)
    rw [ed]
    cases hp : pairOk x.l[k] with
    | true =>
      have step : ∀ {ex : AEx} {s' : St}, RunL P G none 0 (loopAt P 21 0) (rdSt1 b v o (g + 1) ((x.l.take (k + 1)).map decD) (k + 1)) ex s' → RunL P G none 0 (loopAt P 21 0) (rdSt1 b v o g ((x.l.take k).map decD) k) ex s' := fun h2 => by
        refine rl1_w b v x x.l[k] _ _ o g _ k h3 hlt hl (by simp; omega) hx (int2_yes hp) _ _ ?_
        rw [decD_snoc hlt] at h2
        unfold rdSt1 at h2
        rw [← encs_append, List.length_append] at h2
        exact h2
      have e1 : (x.l[k] :: x.l.drop (k + 1)).all pairOk = (x.l.drop (k + 1)).all pairOk := by rw [List.all_cons, hp]; rfl
      rw [e1]
      exact ⟨fun h => let ⟨g', q⟩ := i1 h; ⟨g', step q⟩, fun h => step (i2 h)⟩
    | false =>
      have e1 : (x.l[k] :: x.l.drop (k + 1)).all pairOk = false := by rw [List.all_cons, hp]; rfl
      rw [e1]
      exact ⟨fun h => (by cases h), fun _ => RunL.postH (rl1_bad b v x x.l[k] o g _ k h3 hlt hx (ints_no x.l[k] 2 (by decide) (by decide) (hy _ (List.getElem_mem hlt)) hp) trivial) ⟨.inl rfl, .inl rfl, .inr trivial, .inr trivial, trivial⟩⟩
theorem rl_c (b : List UInt8) (v x : CV) (o : OC) (h3 : v.l[3]? = some x) (hl : x.l.length ≤ 1000000000) (hy : ∀ y ∈ x.l, y.l.length ≤ 1000000000) :
    (x.l.all pairOk = true → RunL P G none 0 (loopAt P 21 0) (rdSt0 b v o) (.exit 0) { env := rdX b, H := [.box zcl, .box (Cdc.enc v), .box (o.cl (vec (x.l.map decD)))] }) ∧
    (x.l.all pairOk = false → RunL P G none 0 (loopAt P 21 0) (rdSt0 b v o) .ret { env := rdR, H := [.box zcl, .box (Cdc.enc v), .gone] }) := by
  by_cases h0 : x.l.length = 0
  · have e : x.l = [] := List.eq_nil_of_length_eq_zero h0
    rw [e]
    refine ⟨fun _ => RunL.postH (rl0_end b v x o h3 h0 trivial) ⟨.inl rfl, .inl rfl, .inr ⟨rfl, fun j hj => ?_⟩, trivial⟩, fun h => by cases h⟩
    match j, hj with
    | 3, _ => exact Sub.nil 2
    | 0, _ | 1, _ | 2, _ | 4, _ | 5, _ | 6, _ | 7, _ | 8, _ | 9, _ | 10, _ | 11, _ | 12, _ | 13, _ | 14, _ | 15, _ | 16, _ => exact Sub.refl _
    | j + 17, h => exact absurd h (by simp [OC.cl, ocl])
  · have hlt : 0 < x.l.length := by omega
    have ed := List.drop_eq_getElem_cons hlt
    rw [List.drop_zero] at ed
    have hx := List.getElem?_eq_getElem hlt
    obtain ⟨i1, i2⟩ := rl1_loop b v x o h3 hl hy (x.l.length - 1) 1 0 rfl (by omega)
    have et : (x.l.take 1).map decD = [decD x.l[0]] := by simpa using decD_snoc hlt
    rw [et] at i1 i2
    cases hp : pairOk x.l[0] with
    | true =>
      have step : ∀ {ex : AEx} {s' : St}, RunL P G none 0 (loopAt P 21 0) (rdSt1 b v o 0 [decD x.l[0]] 1) ex s' → RunL P G none 0 (loopAt P 21 0) (rdSt0 b v o) ex s' := fun h2 =>
        rl0_w b v x x.l[0] _ _ o h3 hlt hl hx (int2_yes hp) _ _ h2
      have e1 : x.l.all pairOk = (x.l.drop 1).all pairOk := by
        rw [ed, List.all_cons, hp]; rfl
      rw [e1]
      refine ⟨fun h => ?_, fun h => ?_⟩
      · obtain ⟨g', q⟩ := i1 h
        have h1 := step q
        have ha : evalFrz [.box zcl, .box (Cdc.enc v), .box (o.cl (.own 3 g' 0 (x.l.map decD).length)), .arr g' 2 false (encs (x.l.map decD))] (.own 3 g' 0 (x.l.map decD).length) (encs (x.l.map decD)) =
            some (.sl 2 false (encs (x.l.map decD)), [.box zcl, .box (Cdc.enc v), .box (o.cl (.own 3 g' 0 (x.l.map decD).length)), .arr g' 2 true (encs (x.l.map decD))],
              [g' = g', List.take (x.l.map decD).length (List.drop 0 (encs (x.l.map decD))) = encs (x.l.map decD), (encs (x.l.map decD)).length = (x.l.map decD).length, ∀ c ∈ encs (x.l.map decD), c.all AV.pureB = true]) := rfl
        have h2 := RunL.frzBox (b := 2) (j := 3) (cells := o.cl (.own 3 g' 0 (x.l.map decD).length)) h1 rfl rfl rfl ha ⟨rfl, encs_all _, encs_length _, encs_pure _, trivial⟩
        have h3 := RunL.postH (K := [.box zcl, .box (Cdc.enc v), .box (o.cl (vec (x.l.map decD))), .gone]) h2 ⟨.inl rfl, .inl rfl, .inl rfl, .inr trivial, trivial⟩
        exact RunL.cut 3 h3 (fun _ e => by cases e) (s2 := { env := rdX b, H := [.box zcl, .box (Cdc.enc v), .box (o.cl (vec (x.l.map decD)))] }) (ps := []) (by kernel_rfl) trivial
      · exact RunL.cut 3 (step (i2 h)) (fun _ e => by cases e) (s2 := { env := rdR, H := [.box zcl, .box (Cdc.enc v), .gone] }) (ps := []) (by kernel_rfl) trivial
    | false =>
      have e1 : x.l.all pairOk = false := by
        rw [ed, List.all_cons, hp]; rfl
      rw [e1]
      exact ⟨fun h => (by cases h), fun _ => RunL.postH (rl0_bad b v x x.l[0] o h3 hlt hx (ints_no x.l[0] 2 (by decide) (by decide) (hy _ (List.getElem_mem hlt)) hp) trivial) ⟨.inl rfl, .inl rfl, .inr trivial, trivial⟩⟩
end Go.Ops

/- OPS, 14: the reference's Decode, by cases. -/
namespace Go.Ops
set_option maxRecDepth 100000
set_option linter.unusedSimpArgs false
set_option linter.unusedVariables false
open Go Go.Am Go.Proofs Go.Seat Go.Vec Go.Cdc

theorem rdA (b : List UInt8) (v x0 x1 x2 x3 x4 x5 x6 x7 x8 x9 x10 x11 : CV) (h0 : v.l[0]? = some x0) (h1 : v.l[1]? = some x1) (h2 : v.l[2]? = some x2) (h3 : v.l[3]? = some x3) (h4 : v.l[4]? = some x4) (h5 : v.l[5]? = some x5) (h6 : v.l[6]? = some x6) (h7 : v.l[7]? = some x7) (h8 : v.l[8]? = some x8) (h9 : v.l[9]? = some x9) (h10 : v.l[10]? = some x10) (h11 : v.l[11]? = some x11) (hk : v.k = 3) (hl : v.l.length = 12) (hd : CallC P G 54 [byt b] [] (.ret (.tup [val v, int 0])) []) (hL : RunL P G none 0 (loopAt P 21 0) (rdSt0 b v ⟨x0.n, x1.n, x2.n, x5.n, x8.s, x9.s, x10.n, x11.n == 1⟩) .ret { env := slots 198 [(2, .ptr 0 0), (3, int 170)], H := [.box zcl, .box (Cdc.enc v), .gone] }) (h : True) : CallC P G 21 [byt b] [] (AOut.ret (AV.tup [op zop, int 170])) [] := by
  have _ := h
  exact CallC.out ((show CallC P G 21 [byt b] [] (AOut.ret (AV.tup [AV.agg [int 0, int 0, int 0, nilS, int 0, str (ByteArray.mk #[]), int 0, int 0, int 0, int 0, int 0, int 0, int 0, str (ByteArray.mk #[]), str (ByteArray.mk #[]), int 0, Am.bool false], int 170])) [] from callC_of [kc [] (@hd ), kf (Eq.refl false), kf (show (CV.k v != 3) = false from (congrArg Bool.not (decide_eq_true (by omega)))), kv 29 (show Am.Sub (int (↑(List.length (encL (CV.l v))) : Int)) (int (↑(List.length (CV.l v)) : Int)) from (Sub.of_eq (by simp only [Go.Cdc.encL_length]))), kf (show ((↑(List.length (CV.l v)) : Int) != 12) = false from (congrArg Bool.not (decide_eq_true (by omega)))), ko (Orc.elem (Cdc.enc x0)), ko (Orc.elem (Cdc.enc x1)), ko (Orc.elem (Cdc.enc x2)), ko (Orc.elem (Cdc.enc x5)), ko (Orc.elem (Cdc.enc x8)), ko (Orc.elem (Cdc.enc x9)), ko (Orc.elem (Cdc.enc x10)), ko (Orc.elem (Cdc.enc x11)), kp (show (0 : Int) ≤ (0 : Int) ∧ (encL (CV.l v))[Int.toNat 0]? = some (Cdc.enc x0) from (by rw [Go.Cdc.encL_map]; exact el_nat h0)), kp (show (0 : Int) ≤ (1 : Int) ∧ (encL (CV.l v))[Int.toNat 1]? = some (Cdc.enc x1) from (by rw [Go.Cdc.encL_map]; exact el_nat h1)), kp (show (0 : Int) ≤ (2 : Int) ∧ (encL (CV.l v))[Int.toNat 2]? = some (Cdc.enc x2) from (by rw [Go.Cdc.encL_map]; exact el_nat h2)), kp (show (0 : Int) ≤ (5 : Int) ∧ (encL (CV.l v))[Int.toNat 5]? = some (Cdc.enc x5) from (by rw [Go.Cdc.encL_map]; exact el_nat h5)), kp (show (0 : Int) ≤ (8 : Int) ∧ (encL (CV.l v))[Int.toNat 8]? = some (Cdc.enc x8) from (by rw [Go.Cdc.encL_map]; exact el_nat h8)), kp (show (0 : Int) ≤ (9 : Int) ∧ (encL (CV.l v))[Int.toNat 9]? = some (Cdc.enc x9) from (by rw [Go.Cdc.encL_map]; exact el_nat h9)), kp (show (0 : Int) ≤ (10 : Int) ∧ (encL (CV.l v))[Int.toNat 10]? = some (Cdc.enc x10) from (by rw [Go.Cdc.encL_map]; exact el_nat h10)), kp (show (0 : Int) ≤ (11 : Int) ∧ (encL (CV.l v))[Int.toNat 11]? = some (Cdc.enc x11) from (by rw [Go.Cdc.encL_map]; exact el_nat h11)), kl [1, 5, 8, 9, 10, 11, 12, 13, 14, 15, 16, 17, 18, 19, 20, 21, 22, 23, 24, 25, 26, 27, 28, 29, 30, 31, 32, 33, 34, 35, 36, 37, 38, 39, 40, 41, 42, 43, 44, 45, 46, 47, 48, 49, 50, 51, 52, 53, 54, 55, 56, 57, 58, 59, 60, 61, 62, 63, 64, 65, 66, 67, 68, 69, 70, 71, 72, 73, 74, 75, 76, 77, 78, 79, 80, 81, 82, 83, 84, 85, 86, 87, 88, 89, 90, 91, 92, 93, 94, 95, 96, 97, 98, 99, 100, 101, 102, 103, 104, 105, 106, 107, 108, 109, 110, 111, 112, 113, 114, 115, 116, 117, 118, 119, 120, 121, 122, 123, 124, 125, 126, 127, 128, 129, 130, 131, 132, 133, 134, 135, 136, 137, 138, 139, 140, 141, 142, 143, 144, 145, 146, 147, 148, 149, 150, 151, 152, 153, 154, 155, 156, 157, 158, 159, 160, 161, 162, 163, 164, 165, 166, 167, 168, 169, 170, 171, 172, 173, 174, 175, 176, 177, 178, 179, 180, 181, 182, 183, 184, 185, 186, 187, 188, 189, 190, 191, 192, 193, 194, 195, 196, 197] 3 (@hL )] (by kernel_rfl))) (Sub.tups ⟨(Sub.aggs ⟨Sub.refl _, Sub.refl _, Sub.refl _, Sub.nil _, Sub.refl _, Sub.refl _, Sub.refl _, Sub.refl _, Sub.refl _, Sub.refl _, Sub.refl _, Sub.refl _, Sub.refl _, Sub.refl _, Sub.refl _, Sub.refl _, Sub.refl _, trivial⟩), Sub.refl _, trivial⟩)


theorem rdB (b : List UInt8) (v x0 x1 x2 x3 x4 x5 x6 x7 x8 x9 x10 x11 : CV) (h0 : v.l[0]? = some x0) (h1 : v.l[1]? = some x1) (h2 : v.l[2]? = some x2) (h3 : v.l[3]? = some x3) (h4 : v.l[4]? = some x4) (h5 : v.l[5]? = some x5) (h6 : v.l[6]? = some x6) (h7 : v.l[7]? = some x7) (h8 : v.l[8]? = some x8) (h9 : v.l[9]? = some x9) (h10 : v.l[10]? = some x10) (h11 : v.l[11]? = some x11) (hk : v.k = 3) (hl : v.l.length = 12) (hd : CallC P G 54 [byt b] [] (.ret (.tup [val v, int 0])) []) (ds : List D) (hL : RunL P G none 0 (loopAt P 21 0) (rdSt0 b v ⟨x0.n, x1.n, x2.n, x5.n, x8.s, x9.s, x10.n, x11.n == 1⟩) (.exit 0) { env := rdX b, H := [.box zcl, .box (Cdc.enc v), .box (OC.cl ⟨x0.n, x1.n, x2.n, x5.n, x8.s, x9.s, x10.n, x11.n == 1⟩ (vec ds))] }) (g1 g2 g3 : Int) (hf : CallC P G 55 [val x6, int 3] [] (.ret (.tup [nilS, bool false])) []) (hg : CallC P G 55 [val x7, int 3] [] (.ret (.tup [.sl 1 false [[int g1], [int g2], [int g3]], bool true])) []) (h : True) : CallC P G 21 [byt b] [] (AOut.ret (AV.tup [op zop, int 170])) [] := by
  have _ := h
  exact CallC.out ((show CallC P G 21 [byt b] [] (AOut.ret (AV.tup [AV.agg [int 0, int 0, int 0, nilS, int 0, str (ByteArray.mk #[]), int 0, int 0, int 0, int 0, int 0, int 0, int 0, str (ByteArray.mk #[]), str (ByteArray.mk #[]), int 0, Am.bool false], int 170])) [] from callC_of [kc [] (@hd ), kf (Eq.refl false), kf (show (CV.k v != 3) = false from (congrArg Bool.not (decide_eq_true (by omega)))), kv 29 (show Am.Sub (int (↑(List.length (encL (CV.l v))) : Int)) (int (↑(List.length (CV.l v)) : Int)) from (Sub.of_eq (by simp only [Go.Cdc.encL_length]))), kf (show ((↑(List.length (CV.l v)) : Int) != 12) = false from (congrArg Bool.not (decide_eq_true (by omega)))), ko (Orc.elem (Cdc.enc x0)), ko (Orc.elem (Cdc.enc x1)), ko (Orc.elem (Cdc.enc x2)), ko (Orc.elem (Cdc.enc x5)), ko (Orc.elem (Cdc.enc x8)), ko (Orc.elem (Cdc.enc x9)), ko (Orc.elem (Cdc.enc x10)), ko (Orc.elem (Cdc.enc x11)), kp (show (0 : Int) ≤ (0 : Int) ∧ (encL (CV.l v))[Int.toNat 0]? = some (Cdc.enc x0) from (by rw [Go.Cdc.encL_map]; exact el_nat h0)), kp (show (0 : Int) ≤ (1 : Int) ∧ (encL (CV.l v))[Int.toNat 1]? = some (Cdc.enc x1) from (by rw [Go.Cdc.encL_map]; exact el_nat h1)), kp (show (0 : Int) ≤ (2 : Int) ∧ (encL (CV.l v))[Int.toNat 2]? = some (Cdc.enc x2) from (by rw [Go.Cdc.encL_map]; exact el_nat h2)), kp (show (0 : Int) ≤ (5 : Int) ∧ (encL (CV.l v))[Int.toNat 5]? = some (Cdc.enc x5) from (by rw [Go.Cdc.encL_map]; exact el_nat h5)), kp (show (0 : Int) ≤ (8 : Int) ∧ (encL (CV.l v))[Int.toNat 8]? = some (Cdc.enc x8) from (by rw [Go.Cdc.encL_map]; exact el_nat h8)), kp (show (0 : Int) ≤ (9 : Int) ∧ (encL (CV.l v))[Int.toNat 9]? = some (Cdc.enc x9) from (by rw [Go.Cdc.encL_map]; exact el_nat h9)), kp (show (0 : Int) ≤ (10 : Int) ∧ (encL (CV.l v))[Int.toNat 10]? = some (Cdc.enc x10) from (by rw [Go.Cdc.encL_map]; exact el_nat h10)), kp (show (0 : Int) ≤ (11 : Int) ∧ (encL (CV.l v))[Int.toNat 11]? = some (Cdc.enc x11) from (by rw [Go.Cdc.encL_map]; exact el_nat h11)), kl [1, 5, 8, 9, 10, 11, 12, 13, 14, 15, 16, 17, 18, 19, 20, 21, 22, 23, 24, 25, 26, 27, 28, 29, 30, 31, 32, 33, 34, 35, 36, 37, 38, 39, 40, 41, 42, 43, 44, 45, 46, 47, 48, 49, 50, 51, 52, 53, 54, 55, 56, 57, 58, 59, 60, 61, 62, 63, 64, 65, 66, 67, 68, 69, 70, 71, 72, 73, 74, 75, 76, 77, 78, 79, 80, 81, 82, 83, 84, 85, 86, 87, 88, 89, 90, 91, 92, 93, 94, 95, 96, 97, 98, 99, 100, 101, 102, 103, 104, 105, 106, 107, 108, 109, 110, 111, 112, 113, 114, 115, 116, 117, 118, 119, 120, 121, 122, 123, 124, 125, 126, 127, 128, 129, 130, 131, 132, 133, 134, 135, 136, 137, 138, 139, 140, 141, 142, 143, 144, 145, 146, 147, 148, 149, 150, 151, 152, 153, 154, 155, 156, 157, 158, 159, 160, 161, 162, 163, 164, 165, 166, 167, 168, 169, 170, 171, 172, 173, 174, 175, 176, 177, 178, 179, 180, 181, 182, 183, 184, 185, 186, 187, 188, 189, 190, 191, 192, 193, 194, 195, 196, 197] 3 (@hL ), ko (Orc.elem (Cdc.enc x6)), kp (show (0 : Int) ≤ (6 : Int) ∧ (encL (CV.l v))[Int.toNat 6]? = some (Cdc.enc x6) from (by rw [Go.Cdc.encL_map]; exact el_nat h6)), kc [] (@hf ), ko (Orc.elem (Cdc.enc x7)), kp (show (0 : Int) ≤ (7 : Int) ∧ (encL (CV.l v))[Int.toNat 7]? = some (Cdc.enc x7) from (by rw [Go.Cdc.encL_map]; exact el_nat h7)), kc [] (@hg ), kt (Eq.refl true), kt (Eq.refl true), kt (Eq.refl true)] (by kernel_rfl))) (Sub.tups ⟨(Sub.aggs ⟨Sub.refl _, Sub.refl _, Sub.refl _, Sub.nil _, Sub.refl _, Sub.refl _, Sub.refl _, Sub.refl _, Sub.refl _, Sub.refl _, Sub.refl _, Sub.refl _, Sub.refl _, Sub.refl _, Sub.refl _, Sub.refl _, Sub.refl _, trivial⟩), Sub.refl _, trivial⟩)


end Go.Ops

/- OPS, 15: the reference's Decode, by cases. -/
namespace Go.Ops
set_option maxRecDepth 100000
set_option linter.unusedSimpArgs false
set_option linter.unusedVariables false
open Go Go.Am Go.Proofs Go.Seat Go.Vec Go.Cdc

theorem rdC (b : List UInt8) (v x0 x1 x2 x3 x4 x5 x6 x7 x8 x9 x10 x11 : CV) (h0 : v.l[0]? = some x0) (h1 : v.l[1]? = some x1) (h2 : v.l[2]? = some x2) (h3 : v.l[3]? = some x3) (h4 : v.l[4]? = some x4) (h5 : v.l[5]? = some x5) (h6 : v.l[6]? = some x6) (h7 : v.l[7]? = some x7) (h8 : v.l[8]? = some x8) (h9 : v.l[9]? = some x9) (h10 : v.l[10]? = some x10) (h11 : v.l[11]? = some x11) (hk : v.k = 3) (hl : v.l.length = 12) (hd : CallC P G 54 [byt b] [] (.ret (.tup [val v, int 0])) []) (ds : List D) (hL : RunL P G none 0 (loopAt P 21 0) (rdSt0 b v ⟨x0.n, x1.n, x2.n, x5.n, x8.s, x9.s, x10.n, x11.n == 1⟩) (.exit 0) { env := rdX b, H := [.box zcl, .box (Cdc.enc v), .box (OC.cl ⟨x0.n, x1.n, x2.n, x5.n, x8.s, x9.s, x10.n, x11.n == 1⟩ (vec ds))] }) (hf : CallC P G 55 [val x6, int 3] [] (.ret (.tup [nilS, bool false])) []) (hg : CallC P G 55 [val x7, int 3] [] (.ret (.tup [nilS, bool false])) []) (h : True) : CallC P G 21 [byt b] [] (AOut.ret (AV.tup [op zop, int 170])) [] := by
  have _ := h
  exact CallC.out ((show CallC P G 21 [byt b] [] (AOut.ret (AV.tup [AV.agg [int 0, int 0, int 0, nilS, int 0, str (ByteArray.mk #[]), int 0, int 0, int 0, int 0, int 0, int 0, int 0, str (ByteArray.mk #[]), str (ByteArray.mk #[]), int 0, Am.bool false], int 170])) [] from callC_of [kc [] (@hd ), kf (Eq.refl false), kf (show (CV.k v != 3) = false from (congrArg Bool.not (decide_eq_true (by omega)))), kv 29 (show Am.Sub (int (↑(List.length (encL (CV.l v))) : Int)) (int (↑(List.length (CV.l v)) : Int)) from (Sub.of_eq (by simp only [Go.Cdc.encL_length]))), kf (show ((↑(List.length (CV.l v)) : Int) != 12) = false from (congrArg Bool.not (decide_eq_true (by omega)))), ko (Orc.elem (Cdc.enc x0)), ko (Orc.elem (Cdc.enc x1)), ko (Orc.elem (Cdc.enc x2)), ko (Orc.elem (Cdc.enc x5)), ko (Orc.elem (Cdc.enc x8)), ko (Orc.elem (Cdc.enc x9)), ko (Orc.elem (Cdc.enc x10)), ko (Orc.elem (Cdc.enc x11)), kp (show (0 : Int) ≤ (0 : Int) ∧ (encL (CV.l v))[Int.toNat 0]? = some (Cdc.enc x0) from (by rw [Go.Cdc.encL_map]; exact el_nat h0)), kp (show (0 : Int) ≤ (1 : Int) ∧ (encL (CV.l v))[Int.toNat 1]? = some (Cdc.enc x1) from (by rw [Go.Cdc.encL_map]; exact el_nat h1)), kp (show (0 : Int) ≤ (2 : Int) ∧ (encL (CV.l v))[Int.toNat 2]? = some (Cdc.enc x2) from (by rw [Go.Cdc.encL_map]; exact el_nat h2)), kp (show (0 : Int) ≤ (5 : Int) ∧ (encL (CV.l v))[Int.toNat 5]? = some (Cdc.enc x5) from (by rw [Go.Cdc.encL_map]; exact el_nat h5)), kp (show (0 : Int) ≤ (8 : Int) ∧ (encL (CV.l v))[Int.toNat 8]? = some (Cdc.enc x8) from (by rw [Go.Cdc.encL_map]; exact el_nat h8)), kp (show (0 : Int) ≤ (9 : Int) ∧ (encL (CV.l v))[Int.toNat 9]? = some (Cdc.enc x9) from (by rw [Go.Cdc.encL_map]; exact el_nat h9)), kp (show (0 : Int) ≤ (10 : Int) ∧ (encL (CV.l v))[Int.toNat 10]? = some (Cdc.enc x10) from (by rw [Go.Cdc.encL_map]; exact el_nat h10)), kp (show (0 : Int) ≤ (11 : Int) ∧ (encL (CV.l v))[Int.toNat 11]? = some (Cdc.enc x11) from (by rw [Go.Cdc.encL_map]; exact el_nat h11)), kl [1, 5, 8, 9, 10, 11, 12, 13, 14, 15, 16, 17, 18, 19, 20, 21, 22, 23, 24, 25, 26, 27, 28, 29, 30, 31, 32, 33, 34, 35, 36, 37, 38, 39, 40, 41, 42, 43, 44, 45, 46, 47, 48, 49, 50, 51, 52, 53, 54, 55, 56, 57, 58, 59, 60, 61, 62, 63, 64, 65, 66, 67, 68, 69, 70, 71, 72, 73, 74, 75, 76, 77, 78, 79, 80, 81, 82, 83, 84, 85, 86, 87, 88, 89, 90, 91, 92, 93, 94, 95, 96, 97, 98, 99, 100, 101, 102, 103, 104, 105, 106, 107, 108, 109, 110, 111, 112, 113, 114, 115, 116, 117, 118, 119, 120, 121, 122, 123, 124, 125, 126, 127, 128, 129, 130, 131, 132, 133, 134, 135, 136, 137, 138, 139, 140, 141, 142, 143, 144, 145, 146, 147, 148, 149, 150, 151, 152, 153, 154, 155, 156, 157, 158, 159, 160, 161, 162, 163, 164, 165, 166, 167, 168, 169, 170, 171, 172, 173, 174, 175, 176, 177, 178, 179, 180, 181, 182, 183, 184, 185, 186, 187, 188, 189, 190, 191, 192, 193, 194, 195, 196, 197] 3 (@hL ), ko (Orc.elem (Cdc.enc x6)), kp (show (0 : Int) ≤ (6 : Int) ∧ (encL (CV.l v))[Int.toNat 6]? = some (Cdc.enc x6) from (by rw [Go.Cdc.encL_map]; exact el_nat h6)), kc [] (@hf ), ko (Orc.elem (Cdc.enc x7)), kp (show (0 : Int) ≤ (7 : Int) ∧ (encL (CV.l v))[Int.toNat 7]? = some (Cdc.enc x7) from (by rw [Go.Cdc.encL_map]; exact el_nat h7)), kc [] (@hg ), kt (Eq.refl true), kt (Eq.refl true), kt (Eq.refl true)] (by kernel_rfl))) (Sub.tups ⟨(Sub.aggs ⟨Sub.refl _, Sub.refl _, Sub.refl _, Sub.nil _, Sub.refl _, Sub.refl _, Sub.refl _, Sub.refl _, Sub.refl _, Sub.refl _, Sub.refl _, Sub.refl _, Sub.refl _, Sub.refl _, Sub.refl _, Sub.refl _, Sub.refl _, trivial⟩), Sub.refl _, trivial⟩)


theorem rdD (b : List UInt8) (v x0 x1 x2 x3 x4 x5 x6 x7 x8 x9 x10 x11 : CV) (h0 : v.l[0]? = some x0) (h1 : v.l[1]? = some x1) (h2 : v.l[2]? = some x2) (h3 : v.l[3]? = some x3) (h4 : v.l[4]? = some x4) (h5 : v.l[5]? = some x5) (h6 : v.l[6]? = some x6) (h7 : v.l[7]? = some x7) (h8 : v.l[8]? = some x8) (h9 : v.l[9]? = some x9) (h10 : v.l[10]? = some x10) (h11 : v.l[11]? = some x11) (hk : v.k = 3) (hl : v.l.length = 12) (hd : CallC P G 54 [byt b] [] (.ret (.tup [val v, int 0])) []) (ds : List D) (hL : RunL P G none 0 (loopAt P 21 0) (rdSt0 b v ⟨x0.n, x1.n, x2.n, x5.n, x8.s, x9.s, x10.n, x11.n == 1⟩) (.exit 0) { env := rdX b, H := [.box zcl, .box (Cdc.enc v), .box (OC.cl ⟨x0.n, x1.n, x2.n, x5.n, x8.s, x9.s, x10.n, x11.n == 1⟩ (vec ds))] }) (f1 f2 f3 : Int) (hf : CallC P G 55 [val x6, int 3] [] (.ret (.tup [.sl 1 false [[int f1], [int f2], [int f3]], bool true])) []) (hg : CallC P G 55 [val x7, int 3] [] (.ret (.tup [nilS, bool false])) []) (h : True) : CallC P G 21 [byt b] [] (AOut.ret (AV.tup [op zop, int 170])) [] := by
  have _ := h
  exact CallC.out ((show CallC P G 21 [byt b] [] (AOut.ret (AV.tup [AV.agg [int 0, int 0, int 0, nilS, int 0, str (ByteArray.mk #[]), int 0, int 0, int 0, int 0, int 0, int 0, int 0, str (ByteArray.mk #[]), str (ByteArray.mk #[]), int 0, Am.bool false], int 170])) [] from callC_of [kc [] (@hd ), kf (Eq.refl false), kf (show (CV.k v != 3) = false from (congrArg Bool.not (decide_eq_true (by omega)))), kv 29 (show Am.Sub (int (↑(List.length (encL (CV.l v))) : Int)) (int (↑(List.length (CV.l v)) : Int)) from (Sub.of_eq (by simp only [Go.Cdc.encL_length]))), kf (show ((↑(List.length (CV.l v)) : Int) != 12) = false from (congrArg Bool.not (decide_eq_true (by omega)))), ko (Orc.elem (Cdc.enc x0)), ko (Orc.elem (Cdc.enc x1)), ko (Orc.elem (Cdc.enc x2)), ko (Orc.elem (Cdc.enc x5)), ko (Orc.elem (Cdc.enc x8)), ko (Orc.elem (Cdc.enc x9)), ko (Orc.elem (Cdc.enc x10)), ko (Orc.elem (Cdc.enc x11)), kp (show (0 : Int) ≤ (0 : Int) ∧ (encL (CV.l v))[Int.toNat 0]? = some (Cdc.enc x0) from (by rw [Go.Cdc.encL_map]; exact el_nat h0)), kp (show (0 : Int) ≤ (1 : Int) ∧ (encL (CV.l v))[Int.toNat 1]? = some (Cdc.enc x1) from (by rw [Go.Cdc.encL_map]; exact el_nat h1)), kp (show (0 : Int) ≤ (2 : Int) ∧ (encL (CV.l v))[Int.toNat 2]? = some (Cdc.enc x2) from (by rw [Go.Cdc.encL_map]; exact el_nat h2)), kp (show (0 : Int) ≤ (5 : Int) ∧ (encL (CV.l v))[Int.toNat 5]? = some (Cdc.enc x5) from (by rw [Go.Cdc.encL_map]; exact el_nat h5)), kp (show (0 : Int) ≤ (8 : Int) ∧ (encL (CV.l v))[Int.toNat 8]? = some (Cdc.enc x8) from (by rw [Go.Cdc.encL_map]; exact el_nat h8)), kp (show (0 : Int) ≤ (9 : Int) ∧ (encL (CV.l v))[Int.toNat 9]? = some (Cdc.enc x9) from (by rw [Go.Cdc.encL_map]; exact el_nat h9)), kp (show (0 : Int) ≤ (10 : Int) ∧ (encL (CV.l v))[Int.toNat 10]? = some (Cdc.enc x10) from (by rw [Go.Cdc.encL_map]; exact el_nat h10)), kp (show (0 : Int) ≤ (11 : Int) ∧ (encL (CV.l v))[Int.toNat 11]? = some (Cdc.enc x11) from (by rw [Go.Cdc.encL_map]; exact el_nat h11)), kl [1, 5, 8, 9, 10, 11, 12, 13, 14, 15, 16, 17, 18, 19, 20, 21, 22, 23, 24, 25, 26, 27, 28, 29, 30, 31, 32, 33, 34, 35, 36, 37, 38, 39, 40, 41, 42, 43, 44, 45, 46, 47, 48, 49, 50, 51, 52, 53, 54, 55, 56, 57, 58, 59, 60, 61, 62, 63, 64, 65, 66, 67, 68, 69, 70, 71, 72, 73, 74, 75, 76, 77, 78, 79, 80, 81, 82, 83, 84, 85, 86, 87, 88, 89, 90, 91, 92, 93, 94, 95, 96, 97, 98, 99, 100, 101, 102, 103, 104, 105, 106, 107, 108, 109, 110, 111, 112, 113, 114, 115, 116, 117, 118, 119, 120, 121, 122, 123, 124, 125, 126, 127, 128, 129, 130, 131, 132, 133, 134, 135, 136, 137, 138, 139, 140, 141, 142, 143, 144, 145, 146, 147, 148, 149, 150, 151, 152, 153, 154, 155, 156, 157, 158, 159, 160, 161, 162, 163, 164, 165, 166, 167, 168, 169, 170, 171, 172, 173, 174, 175, 176, 177, 178, 179, 180, 181, 182, 183, 184, 185, 186, 187, 188, 189, 190, 191, 192, 193, 194, 195, 196, 197] 3 (@hL ), ko (Orc.elem (Cdc.enc x6)), kp (show (0 : Int) ≤ (6 : Int) ∧ (encL (CV.l v))[Int.toNat 6]? = some (Cdc.enc x6) from (by rw [Go.Cdc.encL_map]; exact el_nat h6)), kc [] (@hf ), ko (Orc.elem (Cdc.enc x7)), kp (show (0 : Int) ≤ (7 : Int) ∧ (encL (CV.l v))[Int.toNat 7]? = some (Cdc.enc x7) from (by rw [Go.Cdc.encL_map]; exact el_nat h7)), kc [] (@hg ), kf (Eq.refl false), kt (Eq.refl true), kt (Eq.refl true)] (by kernel_rfl))) (Sub.tups ⟨(Sub.aggs ⟨Sub.refl _, Sub.refl _, Sub.refl _, Sub.nil _, Sub.refl _, Sub.refl _, Sub.refl _, Sub.refl _, Sub.refl _, Sub.refl _, Sub.refl _, Sub.refl _, Sub.refl _, Sub.refl _, Sub.refl _, Sub.refl _, Sub.refl _, trivial⟩), Sub.refl _, trivial⟩)


end Go.Ops

/- OPS, 16: the reference's Decode, by cases. -/
namespace Go.Ops
set_option maxRecDepth 100000
set_option linter.unusedSimpArgs false
set_option linter.unusedVariables false
open Go Go.Am Go.Proofs Go.Seat Go.Vec Go.Cdc

theorem rdE_ (b : List UInt8) (v x0 x1 x2 x3 x4 x5 x6 x7 x8 x9 x10 x11 : CV) (h0 : v.l[0]? = some x0) (h1 : v.l[1]? = some x1) (h2 : v.l[2]? = some x2) (h3 : v.l[3]? = some x3) (h4 : v.l[4]? = some x4) (h5 : v.l[5]? = some x5) (h6 : v.l[6]? = some x6) (h7 : v.l[7]? = some x7) (h8 : v.l[8]? = some x8) (h9 : v.l[9]? = some x9) (h10 : v.l[10]? = some x10) (h11 : v.l[11]? = some x11) (hk : v.k = 3) (hl : v.l.length = 12) (hd : CallC P G 54 [byt b] [] (.ret (.tup [val v, int 0])) []) (ds : List D) (hL : RunL P G none 0 (loopAt P 21 0) (rdSt0 b v ⟨x0.n, x1.n, x2.n, x5.n, x8.s, x9.s, x10.n, x11.n == 1⟩) (.exit 0) { env := rdX b, H := [.box zcl, .box (Cdc.enc v), .box (OC.cl ⟨x0.n, x1.n, x2.n, x5.n, x8.s, x9.s, x10.n, x11.n == 1⟩ (vec ds))] }) (f1 f2 f3 g1 g2 g3 : Int) (hf : CallC P G 55 [val x6, int 3] [] (.ret (.tup [.sl 1 false [[int f1], [int f2], [int f3]], bool true])) []) (hg : CallC P G 55 [val x7, int 3] [] (.ret (.tup [.sl 1 false [[int g1], [int g2], [int g3]], bool true])) []) (hx4 : ¬ x4.l.length = 2) (hl4 : x4.l.length ≤ 1000000000) (h : True) : CallC P G 21 [byt b] [] (AOut.ret (AV.tup [op zop, int 170])) [] := by
  have _ := h
  exact CallC.out ((show CallC P G 21 [byt b] [] (AOut.ret (AV.tup [AV.agg [int 0, int 0, int 0, nilS, int 0, str (ByteArray.mk #[]), int 0, int 0, int 0, int 0, int 0, int 0, int 0, str (ByteArray.mk #[]), str (ByteArray.mk #[]), int 0, Am.bool false], int 170])) [] from callC_of [kc [] (@hd ), kf (Eq.refl false), kf (show (CV.k v != 3) = false from (congrArg Bool.not (decide_eq_true (by omega)))), kv 29 (show Am.Sub (int (↑(List.length (encL (CV.l v))) : Int)) (int (↑(List.length (CV.l v)) : Int)) from (Sub.of_eq (by simp only [Go.Cdc.encL_length]))), kf (show ((↑(List.length (CV.l v)) : Int) != 12) = false from (congrArg Bool.not (decide_eq_true (by omega)))), ko (Orc.elem (Cdc.enc x0)), ko (Orc.elem (Cdc.enc x1)), ko (Orc.elem (Cdc.enc x2)), ko (Orc.elem (Cdc.enc x5)), ko (Orc.elem (Cdc.enc x8)), ko (Orc.elem (Cdc.enc x9)), ko (Orc.elem (Cdc.enc x10)), ko (Orc.elem (Cdc.enc x11)), kp (show (0 : Int) ≤ (0 : Int) ∧ (encL (CV.l v))[Int.toNat 0]? = some (Cdc.enc x0) from (by rw [Go.Cdc.encL_map]; exact el_nat h0)), kp (show (0 : Int) ≤ (1 : Int) ∧ (encL (CV.l v))[Int.toNat 1]? = some (Cdc.enc x1) from (by rw [Go.Cdc.encL_map]; exact el_nat h1)), kp (show (0 : Int) ≤ (2 : Int) ∧ (encL (CV.l v))[Int.toNat 2]? = some (Cdc.enc x2) from (by rw [Go.Cdc.encL_map]; exact el_nat h2)), kp (show (0 : Int) ≤ (5 : Int) ∧ (encL (CV.l v))[Int.toNat 5]? = some (Cdc.enc x5) from (by rw [Go.Cdc.encL_map]; exact el_nat h5)), kp (show (0 : Int) ≤ (8 : Int) ∧ (encL (CV.l v))[Int.toNat 8]? = some (Cdc.enc x8) from (by rw [Go.Cdc.encL_map]; exact el_nat h8)), kp (show (0 : Int) ≤ (9 : Int) ∧ (encL (CV.l v))[Int.toNat 9]? = some (Cdc.enc x9) from (by rw [Go.Cdc.encL_map]; exact el_nat h9)), kp (show (0 : Int) ≤ (10 : Int) ∧ (encL (CV.l v))[Int.toNat 10]? = some (Cdc.enc x10) from (by rw [Go.Cdc.encL_map]; exact el_nat h10)), kp (show (0 : Int) ≤ (11 : Int) ∧ (encL (CV.l v))[Int.toNat 11]? = some (Cdc.enc x11) from (by rw [Go.Cdc.encL_map]; exact el_nat h11)), kl [1, 5, 8, 9, 10, 11, 12, 13, 14, 15, 16, 17, 18, 19, 20, 21, 22, 23, 24, 25, 26, 27, 28, 29, 30, 31, 32, 33, 34, 35, 36, 37, 38, 39, 40, 41, 42, 43, 44, 45, 46, 47, 48, 49, 50, 51, 52, 53, 54, 55, 56, 57, 58, 59, 60, 61, 62, 63, 64, 65, 66, 67, 68, 69, 70, 71, 72, 73, 74, 75, 76, 77, 78, 79, 80, 81, 82, 83, 84, 85, 86, 87, 88, 89, 90, 91, 92, 93, 94, 95, 96, 97, 98, 99, 100, 101, 102, 103, 104, 105, 106, 107, 108, 109, 110, 111, 112, 113, 114, 115, 116, 117, 118, 119, 120, 121, 122, 123, 124, 125, 126, 127, 128, 129, 130, 131, 132, 133, 134, 135, 136, 137, 138, 139, 140, 141, 142, 143, 144, 145, 146, 147, 148, 149, 150, 151, 152, 153, 154, 155, 156, 157, 158, 159, 160, 161, 162, 163, 164, 165, 166, 167, 168, 169, 170, 171, 172, 173, 174, 175, 176, 177, 178, 179, 180, 181, 182, 183, 184, 185, 186, 187, 188, 189, 190, 191, 192, 193, 194, 195, 196, 197] 3 (@hL ), ko (Orc.elem (Cdc.enc x6)), kp (show (0 : Int) ≤ (6 : Int) ∧ (encL (CV.l v))[Int.toNat 6]? = some (Cdc.enc x6) from (by rw [Go.Cdc.encL_map]; exact el_nat h6)), kc [] (@hf ), ko (Orc.elem (Cdc.enc x7)), kp (show (0 : Int) ≤ (7 : Int) ∧ (encL (CV.l v))[Int.toNat 7]? = some (Cdc.enc x7) from (by rw [Go.Cdc.encL_map]; exact el_nat h7)), kc [] (@hg ), kf (Eq.refl false), kf (Eq.refl false), ko (Orc.elem (Cdc.enc x4)), kp (show (0 : Int) ≤ (4 : Int) ∧ (encL (CV.l v))[Int.toNat 4]? = some (Cdc.enc x4) from (by rw [Go.Cdc.encL_map]; exact el_nat h4)), kv 141 (show Am.Sub (int (↑(List.length (encL (CV.l x4))) : Int)) (int (↑(List.length (CV.l x4)) : Int)) from (Sub.of_eq (by simp only [Go.Cdc.encL_length]))), kt (show ((↑(List.length (CV.l x4)) : Int) != 2) = true from (congrArg Bool.not (decide_eq_false (by omega))))] (by kernel_rfl))) (Sub.tups ⟨(Sub.aggs ⟨Sub.refl _, Sub.refl _, Sub.refl _, Sub.nil _, Sub.refl _, Sub.refl _, Sub.refl _, Sub.refl _, Sub.refl _, Sub.refl _, Sub.refl _, Sub.refl _, Sub.refl _, Sub.refl _, Sub.refl _, Sub.refl _, Sub.refl _, trivial⟩), Sub.refl _, trivial⟩)


end Go.Ops

/- OPS, 17: the reference's Decode, by cases. -/
namespace Go.Ops
set_option maxRecDepth 100000
set_option linter.unusedSimpArgs false
set_option linter.unusedVariables false
open Go Go.Am Go.Proofs Go.Seat Go.Vec Go.Cdc

theorem rdF (b : List UInt8) (v x0 x1 x2 x3 x4 x5 x6 x7 x8 x9 x10 x11 : CV) (h0 : v.l[0]? = some x0) (h1 : v.l[1]? = some x1) (h2 : v.l[2]? = some x2) (h3 : v.l[3]? = some x3) (h4 : v.l[4]? = some x4) (h5 : v.l[5]? = some x5) (h6 : v.l[6]? = some x6) (h7 : v.l[7]? = some x7) (h8 : v.l[8]? = some x8) (h9 : v.l[9]? = some x9) (h10 : v.l[10]? = some x10) (h11 : v.l[11]? = some x11) (hk : v.k = 3) (hl : v.l.length = 12) (hd : CallC P G 54 [byt b] [] (.ret (.tup [val v, int 0])) []) (ds : List D) (hL : RunL P G none 0 (loopAt P 21 0) (rdSt0 b v ⟨x0.n, x1.n, x2.n, x5.n, x8.s, x9.s, x10.n, x11.n == 1⟩) (.exit 0) { env := rdX b, H := [.box zcl, .box (Cdc.enc v), .box (OC.cl ⟨x0.n, x1.n, x2.n, x5.n, x8.s, x9.s, x10.n, x11.n == 1⟩ (vec ds))] }) (f1 f2 f3 g1 g2 g3 : Int) (hf : CallC P G 55 [val x6, int 3] [] (.ret (.tup [.sl 1 false [[int f1], [int f2], [int f3]], bool true])) []) (hg : CallC P G 55 [val x7, int 3] [] (.ret (.tup [.sl 1 false [[int g1], [int g2], [int g3]], bool true])) []) (hx4 : x4.l.length = 2) (y0 y1 : CV) (hy0 : x4.l[0]? = some y0) (hy1 : x4.l[1]? = some y1) (o : OP) (ho : o = ⟨x0.n, x1.n, x2.n, ds, y0.n, y1.s, x5.n, f1, f2, f3, g1, g2, g3, x8.s, x9.s, x10.n, x11.n == 1⟩) (c : Int) (hc : CallC P G 13 [op ⟨x0.n, x1.n, x2.n, ds, y0.n, y1.s, x5.n, f1, f2, f3, g1, g2, g3, x8.s, x9.s, x10.n, x11.n == 1⟩] [] (.ret (int c)) []) (m : List UInt8) (hm : CallC P G 48 [op ⟨x0.n, x1.n, x2.n, ds, y0.n, y1.s, x5.n, f1, f2, f3, g1, g2, g3, x8.s, x9.s, x10.n, x11.n == 1⟩] [] (.ret (byt m)) []) (r : AV) (h : (((c = (0 : Int)) → (((ByteArray.mk (List.toArray m) = ByteArray.mk (List.toArray b)) → Sub (AV.tup [AV.agg [int (CV.n x0), int (CV.n x1), int (CV.n x2), AV.sl 2 false (encs ds), int (CV.n y0), str (CV.s y1), int (CV.n x5), int f1, int f2, int f3, int g1, int g2, int g3, str (CV.s x8), str (CV.s x9), int (CV.n x10), Am.bool (CV.n x11 == 1)], int 0]) (r)) ∧ ((¬ByteArray.mk (List.toArray m) = ByteArray.mk (List.toArray b)) → Sub (AV.tup [AV.agg [int 0, int 0, int 0, nilS, int 0, str (ByteArray.mk #[]), int 0, int 0, int 0, int 0, int 0, int 0, int 0, str (ByteArray.mk #[]), str (ByteArray.mk #[]), int 0, Am.bool false], int 170]) (r)))) ∧ ((¬c = (0 : Int)) → Sub (AV.tup [AV.agg [int 0, int 0, int 0, nilS, int 0, str (ByteArray.mk #[]), int 0, int 0, int 0, int 0, int 0, int 0, int 0, str (ByteArray.mk #[]), str (ByteArray.mk #[]), int 0, Am.bool false], int 170]) (r)))) : CallC P G 21 [byt b] [] (AOut.ret r) [] := by
  have hz0 := (@hd )
  have hz1 : (CV.k v != 3) = false := (congrArg Bool.not (decide_eq_true (by omega)))
  have hz2 : Am.Sub (int (↑(List.length (encL (CV.l v))) : Int)) (int (↑(List.length (CV.l v)) : Int)) := (Sub.of_eq (by simp only [Go.Cdc.encL_length]))
  have hz3 : ((↑(List.length (CV.l v)) : Int) != 12) = false := (congrArg Bool.not (decide_eq_true (by omega)))
  have hz4 : (0 : Int) ≤ (0 : Int) ∧ (encL (CV.l v))[Int.toNat 0]? = some (Cdc.enc x0) := (by rw [Go.Cdc.encL_map]; exact el_nat h0)
  have hz5 : (0 : Int) ≤ (1 : Int) ∧ (encL (CV.l v))[Int.toNat 1]? = some (Cdc.enc x1) := (by rw [Go.Cdc.encL_map]; exact el_nat h1)
  have hz6 : (0 : Int) ≤ (2 : Int) ∧ (encL (CV.l v))[Int.toNat 2]? = some (Cdc.enc x2) := (by rw [Go.Cdc.encL_map]; exact el_nat h2)
  have hz7 : (0 : Int) ≤ (5 : Int) ∧ (encL (CV.l v))[Int.toNat 5]? = some (Cdc.enc x5) := (by rw [Go.Cdc.encL_map]; exact el_nat h5)
  have hz8 : (0 : Int) ≤ (8 : Int) ∧ (encL (CV.l v))[Int.toNat 8]? = some (Cdc.enc x8) := (by rw [Go.Cdc.encL_map]; exact el_nat h8)
  have hz9 : (0 : Int) ≤ (9 : Int) ∧ (encL (CV.l v))[Int.toNat 9]? = some (Cdc.enc x9) := (by rw [Go.Cdc.encL_map]; exact el_nat h9)
  have hz10 : (0 : Int) ≤ (10 : Int) ∧ (encL (CV.l v))[Int.toNat 10]? = some (Cdc.enc x10) := (by rw [Go.Cdc.encL_map]; exact el_nat h10)
  have hz11 : (0 : Int) ≤ (11 : Int) ∧ (encL (CV.l v))[Int.toNat 11]? = some (Cdc.enc x11) := (by rw [Go.Cdc.encL_map]; exact el_nat h11)
  have hz12 := (@hL )
  have hz13 : (0 : Int) ≤ (6 : Int) ∧ (encL (CV.l v))[Int.toNat 6]? = some (Cdc.enc x6) := (by rw [Go.Cdc.encL_map]; exact el_nat h6)
  have hz14 := (@hf )
  have hz15 : (0 : Int) ≤ (7 : Int) ∧ (encL (CV.l v))[Int.toNat 7]? = some (Cdc.enc x7) := (by rw [Go.Cdc.encL_map]; exact el_nat h7)
  have hz16 := (@hg )
  have hz17 : (0 : Int) ≤ (4 : Int) ∧ (encL (CV.l v))[Int.toNat 4]? = some (Cdc.enc x4) := (by rw [Go.Cdc.encL_map]; exact el_nat h4)
  have hz18 : Am.Sub (int (↑(List.length (encL (CV.l x4))) : Int)) (int (↑(List.length (CV.l x4)) : Int)) := (Sub.of_eq (by simp only [Go.Cdc.encL_length]))
  have hz19 : ((↑(List.length (CV.l x4)) : Int) != 2) = false := (congrArg Bool.not (decide_eq_true (by omega)))
  have hz20 : (0 : Int) ≤ (0 : Int) ∧ (encL (CV.l x4))[Int.toNat 0]? = some (Cdc.enc y0) := (by rw [Go.Cdc.encL_map]; exact el_nat hy0)
  have hz21 : (0 : Int) ≤ (1 : Int) ∧ (encL (CV.l x4))[Int.toNat 1]? = some (Cdc.enc y1) := (by rw [Go.Cdc.encL_map]; exact el_nat hy1)
  have hz22 : (0 : Int) ≤ (0 : Int) ∧ [[int f1], [int f2], [int f3]][Int.toNat 0]? = some [int f1] := (⟨by decide, rfl⟩)
  have hz23 : (0 : Int) ≤ (1 : Int) ∧ [[int f1], [int f2], [int f3]][Int.toNat 1]? = some [int f2] := (⟨by decide, rfl⟩)
  have hz24 : (0 : Int) ≤ (2 : Int) ∧ [[int f1], [int f2], [int f3]][Int.toNat 2]? = some [int f3] := (⟨by decide, rfl⟩)
  have hz25 : (0 : Int) ≤ (0 : Int) ∧ [[int g1], [int g2], [int g3]][Int.toNat 0]? = some [int g1] := (⟨by decide, rfl⟩)
  have hz26 : (0 : Int) ≤ (1 : Int) ∧ [[int g1], [int g2], [int g3]][Int.toNat 1]? = some [int g2] := (⟨by decide, rfl⟩)
  have hz27 : (0 : Int) ≤ (2 : Int) ∧ [[int g1], [int g2], [int g3]][Int.toNat 2]? = some [int g3] := (⟨by decide, rfl⟩)
  have hz28 := (@hc )
  have hz30 := (@hm )
  have hz31 : bys m = List.map (fun (c : UInt8) => [AV.lit (Value.int IntKind.u8 (↑(UInt8.toNat c) : Int))]) (Array.toList (Array.mk m)) := (rfl)
  have hz32 : bys b = List.map (fun (c : UInt8) => [AV.lit (Value.int IntKind.u8 (↑(UInt8.toNat c) : Int))]) (Array.toList (Array.mk b)) := (rfl)
  by_cases c4 : (c = (0 : Int))
  · have h := h.1 c4
    have hz29 : (c != 0) = false := (congrArg Bool.not (beq_iff_eq.2 c4))
    have hz33 : Am.Sub (Am.bool !ByteArray.toList (ByteArray.mk (List.toArray m)) == ByteArray.toList (ByteArray.mk (List.toArray b))) (Am.bool !decide (ByteArray.mk (List.toArray m) = ByteArray.mk (List.toArray b))) := (Sub.of_eq (by simp only [Go.Cdc.str_eq]))
    by_cases c5 : (ByteArray.mk (List.toArray m) = ByteArray.mk (List.toArray b))
    · have h := h.1 c5
      have e1 := h
      exact CallC.out ((show CallC P G 21 [byt b] [] (AOut.ret (AV.tup [AV.agg [int (CV.n x0), int (CV.n x1), int (CV.n x2), AV.sl 2 false (encs ds), int (CV.n y0), str (CV.s y1), int (CV.n x5), int f1, int f2, int f3, int g1, int g2, int g3, str (CV.s x8), str (CV.s x9), int (CV.n x10), Am.bool (CV.n x11 == 1)], int 0])) [] from callC_of [kc [] hz0, kf (Eq.refl false), kf hz1, kv 29 hz2, kf hz3, ko (Orc.elem (Cdc.enc x0)), ko (Orc.elem (Cdc.enc x1)), ko (Orc.elem (Cdc.enc x2)), ko (Orc.elem (Cdc.enc x5)), ko (Orc.elem (Cdc.enc x8)), ko (Orc.elem (Cdc.enc x9)), ko (Orc.elem (Cdc.enc x10)), ko (Orc.elem (Cdc.enc x11)), kp hz4, kp hz5, kp hz6, kp hz7, kp hz8, kp hz9, kp hz10, kp hz11, kl [1, 5, 8, 9, 10, 11, 12, 13, 14, 15, 16, 17, 18, 19, 20, 21, 22, 23, 24, 25, 26, 27, 28, 29, 30, 31, 32, 33, 34, 35, 36, 37, 38, 39, 40, 41, 42, 43, 44, 45, 46, 47, 48, 49, 50, 51, 52, 53, 54, 55, 56, 57, 58, 59, 60, 61, 62, 63, 64, 65, 66, 67, 68, 69, 70, 71, 72, 73, 74, 75, 76, 77, 78, 79, 80, 81, 82, 83, 84, 85, 86, 87, 88, 89, 90, 91, 92, 93, 94, 95, 96, 97, 98, 99, 100, 101, 102, 103, 104, 105, 106, 107, 108, 109, 110, 111, 112, 113, 114, 115, 116, 117, 118, 119, 120, 121, 122, 123, 124, 125, 126, 127, 128, 129, 130, 131, 132, 133, 134, 135, 136, 137, 138, 139, 140, 141, 142, 143, 144, 145, 146, 147, 148, 149, 150, 151, 152, 153, 154, 155, 156, 157, 158, 159, 160, 161, 162, 163, 164, 165, 166, 167, 168, 169, 170, 171, 172, 173, 174, 175, 176, 177, 178, 179, 180, 181, 182, 183, 184, 185, 186, 187, 188, 189, 190, 191, 192, 193, 194, 195, 196, 197] 3 hz12, ko (Orc.elem (Cdc.enc x6)), kp hz13, kc [] hz14, ko (Orc.elem (Cdc.enc x7)), kp hz15, kc [] hz16, kf (Eq.refl false), kf (Eq.refl false), ko (Orc.elem (Cdc.enc x4)), kp hz17, kv 141 hz18, kf hz19, ko (Orc.elem (Cdc.enc x4)), ko (Orc.elem (Cdc.enc y0)), ko (Orc.elem (Cdc.enc x4)), ko (Orc.elem (Cdc.enc y1)), ko (Orc.elem [int f1]), ko (Orc.elem [int f2]), ko (Orc.elem [int f3]), ko (Orc.elem [int g1]), ko (Orc.elem [int g2]), ko (Orc.elem [int g3]), kp hz17, kp hz20, kp hz17, kp hz21, kp hz22, kp hz23, kp hz24, kp hz25, kp hz26, kp hz27, kc [] hz28, kf hz29, kc [] hz30, ko (Orc.bytes (ByteArray.mk (List.toArray m))), ko (Orc.bytes (ByteArray.mk (List.toArray b))), kp hz31, kp hz32, kv 194 hz33, kf (show (!decide (ByteArray.mk (List.toArray m) = ByteArray.mk (List.toArray b))) = false from (congrArg Bool.not (decide_eq_true c5)))] (by kernel_rfl))) e1
    · have h := h.2 c5
      have e1 := h
      exact CallC.out ((show CallC P G 21 [byt b] [] (AOut.ret (AV.tup [AV.agg [int 0, int 0, int 0, nilS, int 0, str (ByteArray.mk #[]), int 0, int 0, int 0, int 0, int 0, int 0, int 0, str (ByteArray.mk #[]), str (ByteArray.mk #[]), int 0, Am.bool false], int 170])) [] from callC_of [kc [] hz0, kf (Eq.refl false), kf hz1, kv 29 hz2, kf hz3, ko (Orc.elem (Cdc.enc x0)), ko (Orc.elem (Cdc.enc x1)), ko (Orc.elem (Cdc.enc x2)), ko (Orc.elem (Cdc.enc x5)), ko (Orc.elem (Cdc.enc x8)), ko (Orc.elem (Cdc.enc x9)), ko (Orc.elem (Cdc.enc x10)), ko (Orc.elem (Cdc.enc x11)), kp hz4, kp hz5, kp hz6, kp hz7, kp hz8, kp hz9, kp hz10, kp hz11, kl [1, 5, 8, 9, 10, 11, 12, 13, 14, 15, 16, 17, 18, 19, 20, 21, 22, 23, 24, 25, 26, 27, 28, 29, 30, 31, 32, 33, 34, 35, 36, 37, 38, 39, 40, 41, 42, 43, 44, 45, 46, 47, 48, 49, 50, 51, 52, 53, 54, 55, 56, 57, 58, 59, 60, 61, 62, 63, 64, 65, 66, 67, 68, 69, 70, 71, 72, 73, 74, 75, 76, 77, 78, 79, 80, 81, 82, 83, 84, 85, 86, 87, 88, 89, 90, 91, 92, 93, 94, 95, 96, 97, 98, 99, 100, 101, 102, 103, 104, 105, 106, 107, 108, 109, 110, 111, 112, 113, 114, 115, 116, 117, 118, 119, 120, 121, 122, 123, 124, 125, 126, 127, 128, 129, 130, 131, 132, 133, 134, 135, 136, 137, 138, 139, 140, 141, 142, 143, 144, 145, 146, 147, 148, 149, 150, 151, 152, 153, 154, 155, 156, 157, 158, 159, 160, 161, 162, 163, 164, 165, 166, 167, 168, 169, 170, 171, 172, 173, 174, 175, 176, 177, 178, 179, 180, 181, 182, 183, 184, 185, 186, 187, 188, 189, 190, 191, 192, 193, 194, 195, 196, 197] 3 hz12, ko (Orc.elem (Cdc.enc x6)), kp hz13, kc [] hz14, ko (Orc.elem (Cdc.enc x7)), kp hz15, kc [] hz16, kf (Eq.refl false), kf (Eq.refl false), ko (Orc.elem (Cdc.enc x4)), kp hz17, kv 141 hz18, kf hz19, ko (Orc.elem (Cdc.enc x4)), ko (Orc.elem (Cdc.enc y0)), ko (Orc.elem (Cdc.enc x4)), ko (Orc.elem (Cdc.enc y1)), ko (Orc.elem [int f1]), ko (Orc.elem [int f2]), ko (Orc.elem [int f3]), ko (Orc.elem [int g1]), ko (Orc.elem [int g2]), ko (Orc.elem [int g3]), kp hz17, kp hz20, kp hz17, kp hz21, kp hz22, kp hz23, kp hz24, kp hz25, kp hz26, kp hz27, kc [] hz28, kf hz29, kc [] hz30, ko (Orc.bytes (ByteArray.mk (List.toArray m))), ko (Orc.bytes (ByteArray.mk (List.toArray b))), kp hz31, kp hz32, kv 194 hz33, kt (show (!decide (ByteArray.mk (List.toArray m) = ByteArray.mk (List.toArray b))) = true from (congrArg Bool.not (decide_eq_false c5)))] (by kernel_rfl))) e1
  · have h := h.2 c4
    have e1 := h
    exact CallC.out ((show CallC P G 21 [byt b] [] (AOut.ret (AV.tup [AV.agg [int 0, int 0, int 0, nilS, int 0, str (ByteArray.mk #[]), int 0, int 0, int 0, int 0, int 0, int 0, int 0, str (ByteArray.mk #[]), str (ByteArray.mk #[]), int 0, Am.bool false], int 170])) [] from callC_of [kc [] hz0, kf (Eq.refl false), kf hz1, kv 29 hz2, kf hz3, ko (Orc.elem (Cdc.enc x0)), ko (Orc.elem (Cdc.enc x1)), ko (Orc.elem (Cdc.enc x2)), ko (Orc.elem (Cdc.enc x5)), ko (Orc.elem (Cdc.enc x8)), ko (Orc.elem (Cdc.enc x9)), ko (Orc.elem (Cdc.enc x10)), ko (Orc.elem (Cdc.enc x11)), kp hz4, kp hz5, kp hz6, kp hz7, kp hz8, kp hz9, kp hz10, kp hz11, kl [1, 5, 8, 9, 10, 11, 12, 13, 14, 15, 16, 17, 18, 19, 20, 21, 22, 23, 24, 25, 26, 27, 28, 29, 30, 31, 32, 33, 34, 35, 36, 37, 38, 39, 40, 41, 42, 43, 44, 45, 46, 47, 48, 49, 50, 51, 52, 53, 54, 55, 56, 57, 58, 59, 60, 61, 62, 63, 64, 65, 66, 67, 68, 69, 70, 71, 72, 73, 74, 75, 76, 77, 78, 79, 80, 81, 82, 83, 84, 85, 86, 87, 88, 89, 90, 91, 92, 93, 94, 95, 96, 97, 98, 99, 100, 101, 102, 103, 104, 105, 106, 107, 108, 109, 110, 111, 112, 113, 114, 115, 116, 117, 118, 119, 120, 121, 122, 123, 124, 125, 126, 127, 128, 129, 130, 131, 132, 133, 134, 135, 136, 137, 138, 139, 140, 141, 142, 143, 144, 145, 146, 147, 148, 149, 150, 151, 152, 153, 154, 155, 156, 157, 158, 159, 160, 161, 162, 163, 164, 165, 166, 167, 168, 169, 170, 171, 172, 173, 174, 175, 176, 177, 178, 179, 180, 181, 182, 183, 184, 185, 186, 187, 188, 189, 190, 191, 192, 193, 194, 195, 196, 197] 3 hz12, ko (Orc.elem (Cdc.enc x6)), kp hz13, kc [] hz14, ko (Orc.elem (Cdc.enc x7)), kp hz15, kc [] hz16, kf (Eq.refl false), kf (Eq.refl false), ko (Orc.elem (Cdc.enc x4)), kp hz17, kv 141 hz18, kf hz19, ko (Orc.elem (Cdc.enc x4)), ko (Orc.elem (Cdc.enc y0)), ko (Orc.elem (Cdc.enc x4)), ko (Orc.elem (Cdc.enc y1)), ko (Orc.elem [int f1]), ko (Orc.elem [int f2]), ko (Orc.elem [int f3]), ko (Orc.elem [int g1]), ko (Orc.elem [int g2]), ko (Orc.elem [int g3]), kp hz17, kp hz20, kp hz17, kp hz21, kp hz22, kp hz23, kp hz24, kp hz25, kp hz26, kp hz27, kc [] hz28, kt (show (c != 0) = true from (congrArg Bool.not (beq_eq_false_iff_ne.2 c4))), kt (Eq.refl true)] (by kernel_rfl))) e1


end Go.Ops

/- OPS, 21: Encode and Decode, in both packages. -/
namespace Go.Ops
set_option maxRecDepth 100000
set_option linter.unusedSimpArgs false
set_option linter.unusedVariables false
open Go Go.Am Go.Proofs Go.Seat Go.Vec Go.Cdc

theorem Okp.okn {o : OP} {B : Nat} (hB : B ≤ 1000000000) (h : Okp o) (f : Few B o) : Okn o := ⟨by have := f.cx; omega, h.kd, h.f3⟩
/-- What Encode answers. -/
def encO (o : OP) : List UInt8 := if chkOE o = 0 then encB (opV o) else []
theorem enc_c (o : OP) {B : Nat} (hB : B ≤ 200000) (h : Okp o) (f : Few B o) : CallC P G 18 [op o] [] (.ret (.tup [byt (encO o), int (chkOE o)])) [] := by
  have hc := Ops.check_c o (h.okn (by omega) f)
  have hl := f.cx
  by_cases h0 : chkOE o = 0
  · rw [h0] at hc
    have he := encode_ok (opV o) (opV_ok (by omega) h f) (by have := opV_dp o; omega) (opV_wf o) (by have := opV_len f; omega)
    rw [encO, if_pos h0, h0]
    exact enc_ok o _ 0 (by omega) hc he
  · rw [encO, if_neg h0]
    exact enc_x o _ h0 hc trivial
theorem chkE_opV (o : OP) : Cdc.chkE (opV o) = 0 := by
  have := opV_dp o
  simp only [Cdc.chkE, opV_wf, if_true]; rw [if_neg (by omega)]
theorem rencod_c (o : OP) {B : Nat} (hB : B ≤ 200000) (h : Okp o) (f : Few B o) : CallC P G 48 [op o] [] (.ret (byt (encB (opV o)))) [] := by
  have he := rencode_c (opV o) (opV_ok (by omega) h f) (by have := opV_dp o; omega) (fun _ => by have := opV_len f; omega)
  have hl := f.cx
  rw [encE, if_pos (chkE_opV o)] at he
  exact renc_ok o _ _ (by omega) he
theorem renco_c (o : OP) {B : Nat} (hB : B ≤ 200000) (h : Okp o) (f : Few B o) : CallC P G 19 [op o] [] (.ret (.tup [byt (encO o), int (chkOE o)])) [] := by
  have hc := Ops.rcheck_c o (h.okn (by omega) f)
  by_cases h0 : chkOE o = 0
  · rw [encO, if_pos h0, h0]
    exact rencode_w o _ _ hc (rencod_c o hB h f) h0 trivial
  · rw [encO, if_neg h0]
    exact rencode_x o _ hc h0 trivial

/-! What is read -/
/-- A part of what is read. -/
def Gd (N : Nat) (x : CV) : Prop := (wf x = true ∧ Okv x ∧ (encB x).length ≤ N) ∨ x = default
theorem encB_mem : ∀ {l : List CV} {x : CV}, x ∈ l → (encB x).length ≤ (encBL l).length
  | v :: l, x, h => by
    rw [encBL_cons, List.length_append]
    rcases List.mem_cons.1 h with rfl | h
    · omega
    · have := encB_mem h; omega
theorem Gd.parts {N : Nat} {x : CV} (h : Gd N x) : x.l.length ≤ N ∧ x.s.size ≤ N ∧ I64 x.n ∧ ∀ y ∈ x.l, Gd N y := by
  rcases h with ⟨h1, h2, h3⟩ | rfl
  · cases h2 with
    | mk k n s l hn hs hl hall =>
    rcases wf_k h1 with q | q | q <;> have q : k = _ := q <;> subst q
    · have hw' : s = .empty ∧ l.length = 0 := by simpa [wf] using h1
      obtain ⟨rfl, hl0⟩ := hw'
      obtain rfl := List.eq_nil_of_length_eq_zero hl0
      exact ⟨Nat.zero_le _, Nat.zero_le _, hn, fun y hy => by cases hy⟩
    · have hw' : n = 0 ∧ l.length = 0 := by simpa [wf] using h1
      obtain ⟨rfl, hl0⟩ := hw'
      obtain rfl := List.eq_nil_of_length_eq_zero hl0
      have e : encB (.mk 2 0 s []) = 2 :: (num s.size ++ s.data.toList) := by simp [encB]
      rw [e, List.length_cons, List.length_append, bdata_length] at h3
      exact ⟨Nat.zero_le _, show s.size ≤ N by omega, hn, fun y hy => by cases hy⟩
    · have hw' : (n = 0 ∧ s = .empty) ∧ wfL l = true := by simpa [wf, Bool.and_eq_true] using h1
      obtain ⟨⟨rfl, rfl⟩, hwl⟩ := hw'
      have e : encB (.mk 3 0 .empty l) = 3 :: (num l.length ++ encBL l) := by simp [encB]
      rw [e, List.length_cons, List.length_append] at h3
      have hle := encBL_len l
      exact ⟨show l.length ≤ N by omega, Nat.zero_le _, hn, fun y hy => .inl ⟨wfL_mem hwl y hy, hall y hy, by have := encB_mem (show y ∈ l from hy); omega⟩⟩
  · exact ⟨Nat.zero_le _, Nat.zero_le _, by show I64 0; decide, fun y hy => by cases hy⟩
theorem at_mem (l : List CV) (i : Nat) : at_ l i ∈ l ∨ at_ l i = default := by
  unfold at_
  rcases Nat.lt_or_ge i l.length with h | h
  · rw [List.drop_eq_getElem_cons h]
    exact .inl (List.getElem_mem h)
  · rw [List.drop_of_length_le h]
    exact .inr rfl
theorem Gd.at {N : Nat} {x : CV} (h : Gd N x) (i : Nat) : Gd N (at_ x.l i) := by
  rcases at_mem x.l i with q | q
  · exact h.parts.2.2.2 _ q
  · exact .inr q
theorem decO_okp {N : Nat} {v : CV} (h : Gd N v) : Okp (decO v.l) where
  dv := (h.at 0).parts.2.2.1
  sq := (h.at 1).parts.2.2.1
  tm := (h.at 2).parts.2.2.1
  cx := fun d hd => by
    obtain ⟨c, hc, rfl⟩ := List.mem_map.1 hd
    have g := (h.at 3).parts.2.2.2 c hc
    exact ⟨(g.at 0).parts.2.2.1, (g.at 1).parts.2.2.1⟩
  pk := ((h.at 4).at 0).parts.2.2.1
  kd := (h.at 5).parts.2.2.1
  f1 := ((h.at 6).at 0).parts.2.2.1
  f2 := ((h.at 6).at 1).parts.2.2.1
  f3 := ((h.at 6).at 2).parts.2.2.1
  t1 := ((h.at 7).at 0).parts.2.2.1
  t2 := ((h.at 7).at 1).parts.2.2.1
  t3 := ((h.at 7).at 2).parts.2.2.1
  n := (h.at 10).parts.2.2.1
theorem decO_few {N : Nat} {v : CV} (h : Gd N v) : Few N (decO v.l) where
  cx := by
    have := (h.at 3).parts.1
    show ((at_ v.l 3).l.map decD).length ≤ N
    rw [List.length_map]; exact this
  ky := (h.at 8).parts.2.1
  vl := (h.at 9).parts.2.1
  pn := ((h.at 4).at 1).parts.2.1
/-- What Decode answers. -/
def decOp (b : List UInt8) : OP × Int := if decE b = 0 then (if chkOE (decO (decV b).l) = 0 ∧ b = encB (opV (decO (decV b).l)) then (decO (decV b).l, 0) else (zop, 170)) else (zop, decE b)
theorem gd_dec {b : List UInt8} (hb : b.length ≤ 1000000000) (h : decE b = 0) : Gd b.length (decV b) := by
  obtain ⟨h1, _, h3, h4⟩ := dec_sound hb h
  exact .inl ⟨h1, h3, by rw [h4]; exact Nat.le_refl _⟩
theorem dec_cc (b : List UInt8) (hb : b.length ≤ 200000) : CallC P G 20 [byt b] [] (.ret (.tup [op (decOp b).1, int (decOp b).2])) [] := by
  have hd := decode_c b (by omega)
  by_cases h0 : decE b = 0
  · rw [h0] at hd
    have g := gd_dec (by omega) h0
    have hE := enc_c (decO (decV b).l) hb (decO_okp g) (decO_few g)
    have hN : ∀ {x : CV}, Gd b.length x → x.l.length ≤ 1000000000 := fun h => by have := h.parts.1; omega
    have := dec_c b (decV b) _ _ (hN g) (fun k => hN (g.at k)) (fun k => hN ((g.at 3).at k)) hd hE
    have e : decR b (decV b) (chkOE (decO (decV b).l)) (encO (decO (decV b).l)) = decOp b := by
      unfold decR decOp
      rw [if_pos h0]
      by_cases h1 : chkOE (decO (decV b).l) = 0
      · simp only [encO, h1, if_true, true_and]
      · simp [h1]
    rw [e] at this
    exact this
  · have := dec_x b _ _ h0 hd trivial
    have e : decOp b = (zop, decE b) := by unfold decOp; rw [if_neg h0]
    rw [e]
    exact this
end Go.Ops

/- OPS, 22: the reference's Decode answers as the program's. -/
namespace Go.Ops
set_option maxRecDepth 100000
set_option linter.unusedSimpArgs false
set_option linter.unusedVariables false
open Go Go.Am Go.Proofs Go.Seat Go.Vec Go.Cdc

theorem decOp_no {b : List UInt8} (hb : b.length ≤ 200000) (h0 : decE b = 0) (hs : ∀ o, decV b = opV o → False) : decOp b = (zop, 170) := by
  unfold decOp
  rw [if_pos h0, if_neg]
  rintro ⟨_, h2⟩
  have g := gd_dec (by omega) h0
  have ok := opV_ok (B := b.length) (by omega) (decO_okp g) (decO_few g)
  have := (dec_enc (opV (decO (decV b).l)) (opV_wf _) ok (by have := opV_dp (decO (decV b).l); omega)).1
  rw [← h2] at this
  exact hs _ this
theorem twelve {l : List CV} (h : l.length = 12) : ∃ x0 x1 x2 x3 x4 x5 x6 x7 x8 x9 x10 x11, l = [x0, x1, x2, x3, x4, x5, x6, x7, x8, x9, x10, x11] := by
  match l, h with
  | [x0, x1, x2, x3, x4, x5, x6, x7, x8, x9, x10, x11], _ => exact ⟨x0, x1, x2, x3, x4, x5, x6, x7, x8, x9, x10, x11, rfl⟩
theorem two {l : List CV} (h : l.length = 2) : ∃ x0 x1, l = [x0, x1] := by
  match l, h with
  | [x0, x1], _ => exact ⟨x0, x1, rfl⟩
theorem okI_id (a b c : Int) : okI (cvL [cvI a, cvI b, cvI c]) 3 = true := by
  simp [okI, cvL, cvI, isI, CV.k, CV.l]
theorem pairs_ok (l : List D) : (l.map cvD).all pairOk = true := by
  rw [List.all_eq_true]
  intro x hx
  obtain ⟨d, _, rfl⟩ := List.mem_map.1 hx
  simp [pairOk, okI, cvD, cvL, cvI, isI, CV.k, CV.l]
theorem rdec_cc (b : List UInt8) (hb : b.length ≤ 200000) : CallC P G 21 [byt b] [] (.ret (.tup [op (decOp b).1, int (decOp b).2])) [] := by
  have hd := rdecode_c b (by omega)
  by_cases h0 : decE b = 0
  · rw [h0] at hd
    have g := gd_dec (by omega) h0
    have hN : ∀ {x : CV}, Gd b.length x → x.l.length ≤ 1000000000 := fun h => by have := h.parts.1; omega
    have bad : (∀ o, decV b = opV o → False) → CallC P G 21 [byt b] [] (.ret (.tup [op zop, int 170])) [] → CallC P G 21 [byt b] [] (.ret (.tup [op (decOp b).1, int (decOp b).2])) [] := fun h1 h2 => by
      rw [decOp_no hb h0 h1]; exact h2
    have o1 := decO_okp g
    have f1 := decO_few g
    by_cases hsh : (decV b).k = 3 ∧ (decV b).l.length = 12
    · obtain ⟨hk, hl⟩ := hsh
      obtain ⟨x0, x1, x2, x3, x4, x5, x6, x7, x8, x9, x10, x11, hL⟩ := twelve hl
      have a : ∀ i (hi : i < 12), (decV b).l[i]? = some (at_ (decV b).l i) := fun i hi => by
        unfold at_
        have hlt : i < (decV b).l.length := by omega
        rw [List.drop_eq_getElem_cons hlt, List.getElem?_eq_getElem hlt]; rfl
      have e0 : at_ (decV b).l 0 = x0 := by rw [hL]; rfl
      have e1 : at_ (decV b).l 1 = x1 := by rw [hL]; rfl
      have e2 : at_ (decV b).l 2 = x2 := by rw [hL]; rfl
      have e3 : at_ (decV b).l 3 = x3 := by rw [hL]; rfl
      have e4 : at_ (decV b).l 4 = x4 := by rw [hL]; rfl
      have e5 : at_ (decV b).l 5 = x5 := by rw [hL]; rfl
      have e6 : at_ (decV b).l 6 = x6 := by rw [hL]; rfl
      have e7 : at_ (decV b).l 7 = x7 := by rw [hL]; rfl
      have e8 : at_ (decV b).l 8 = x8 := by rw [hL]; rfl
      have e9 : at_ (decV b).l 9 = x9 := by rw [hL]; rfl
      have e10 : at_ (decV b).l 10 = x10 := by rw [hL]; rfl
      have e11 : at_ (decV b).l 11 = x11 := by rw [hL]; rfl
      have q0 := a 0 (by decide); have q1 := a 1 (by decide); have q2 := a 2 (by decide); have q3 := a 3 (by decide); have q4 := a 4 (by decide); have q5 := a 5 (by decide)
      have q6 := a 6 (by decide); have q7 := a 7 (by decide); have q8 := a 8 (by decide); have q9 := a 9 (by decide); have q10 := a 10 (by decide); have q11 := a 11 (by decide)
      have g3 := g.at 3; have g4 := g.at 4; have g6 := g.at 6; have g7 := g.at 7
      rw [e0] at q0; rw [e1] at q1; rw [e2] at q2; rw [e3] at q3 g3; rw [e4] at q4 g4; rw [e5] at q5; rw [e6] at q6 g6; rw [e7] at q7 g7; rw [e8] at q8; rw [e9] at q9; rw [e10] at q10; rw [e11] at q11
      obtain ⟨l1, l2⟩ := rl_c b (decV b) x3 ⟨x0.n, x1.n, x2.n, x5.n, x8.s, x9.s, x10.n, x11.n == 1⟩ q3 (hN g3) (fun y hy => hN (g3.parts.2.2.2 y hy))
      have lists : ∀ o, decV b = opV o → [x0, x1, x2, x3, x4, x5, x6, x7, x8, x9, x10, x11] = (opV o).l := fun o ho => by rw [← ho, hL]
      cases hp : x3.l.all pairOk with
      | false =>
        refine bad (fun o ho => ?_) (rdA b (decV b) x0 x1 x2 x3 x4 x5 x6 x7 x8 x9 x10 x11 q0 q1 q2 q3 q4 q5 q6 q7 q8 q9 q10 q11 hk hl hd (l2 hp) trivial)
        have := lists o ho
        have e : x3 = ctxV o := by
          have h := congrArg (fun l => at_ l 3) this
          exact h
        rw [e] at hp
        have := pairs_ok o.cx
        rw [show (ctxV o).l = o.cx.map cvD from rfl, this] at hp
        cases hp
      | true =>
        have hL1 := l1 hp
        have k6 : okI x6 3 = false → ∀ o, decV b = opV o → False := fun h o ho => by
          have e : x6 = cvL [cvI o.f1, cvI o.f2, cvI o.f3] := congrArg (fun l => at_ l 6) (lists o ho)
          rw [e, okI_id] at h
          cases h
        have k7 : okI x7 3 = false → ∀ o, decV b = opV o → False := fun h o ho => by
          have e : x7 = cvL [cvI o.t1, cvI o.t2, cvI o.t3] := congrArg (fun l => at_ l 7) (lists o ho)
          rw [e, okI_id] at h
          cases h
        cases h6 : okI x6 3 with
        | false =>
          have hf := ints_no x6 3 (by decide) (by decide) (hN g6) h6
          cases h7 : okI x7 3 with
          | false => exact bad (k6 h6) (rdC b (decV b) x0 x1 x2 x3 x4 x5 x6 x7 x8 x9 x10 x11 q0 q1 q2 q3 q4 q5 q6 q7 q8 q9 q10 q11 hk hl hd _ hL1 hf (ints_no x7 3 (by decide) (by decide) (hN g7) h7) trivial)
          | true => exact bad (k6 h6) (rdB b (decV b) x0 x1 x2 x3 x4 x5 x6 x7 x8 x9 x10 x11 q0 q1 q2 q3 q4 q5 q6 q7 q8 q9 q10 q11 hk hl hd _ hL1 _ _ _ hf (int3_yes h7) trivial)
        | true =>
          have hf := int3_yes h6
          cases h7 : okI x7 3 with
          | false => exact bad (k7 h7) (rdD b (decV b) x0 x1 x2 x3 x4 x5 x6 x7 x8 x9 x10 x11 q0 q1 q2 q3 q4 q5 q6 q7 q8 q9 q10 q11 hk hl hd _ hL1 _ _ _ hf (ints_no x7 3 (by decide) (by decide) (hN g7) h7) trivial)
          | true =>
            have hg := int3_yes h7
            by_cases h4 : x4.l.length = 2
            · obtain ⟨y0, y1, hy⟩ := two h4
              have hc := Ops.rcheck_c (decO (decV b).l) (o1.okn (by omega) f1)
              have hm := rencod_c (decO (decV b).l) hb o1 f1
              have eo : decO (decV b).l = ⟨x0.n, x1.n, x2.n, x3.l.map decD, y0.n, y1.s, x5.n, (at_ x6.l 0).n, (at_ x6.l 1).n, (at_ x6.l 2).n, (at_ x7.l 0).n, (at_ x7.l 1).n, (at_ x7.l 2).n, x8.s, x9.s, x10.n, x11.n == 1⟩ := by
                unfold decO
                rw [e0, e1, e2, e3, e4, e5, e6, e7, e8, e9, e10, e11, hy]
                rfl
              rw [eo] at hc hm
              refine rdF b (decV b) x0 x1 x2 x3 x4 x5 x6 x7 x8 x9 x10 x11 q0 q1 q2 q3 q4 q5 q6 q7 q8 q9 q10 q11 hk hl hd _ hL1 _ _ _ _ _ _ hf hg h4 y0 y1 (by rw [hy]; rfl) (by rw [hy]; rfl) _ rfl _ hc _ hm _ ?_
              have em : ∀ m : List UInt8, (ByteArray.mk m.toArray = ByteArray.mk b.toArray) ↔ b = m := fun m => by simp [eq_comm]
              simp only [em]
              rw [← eo]
              unfold decOp
              rw [if_pos h0]
              refine ⟨fun c1 => ⟨fun c2 => ?_, fun c2 => ?_⟩, fun c1 => ?_⟩
              · rw [if_pos ⟨c1, c2⟩, eo]; exact Sub.refl _
              · rw [if_neg (fun q => c2 q.2)]; exact zopS
              · rw [if_neg (fun q => c1 q.1)]; exact zopS
            · refine bad (fun o ho => ?_) (rdE_ b (decV b) x0 x1 x2 x3 x4 x5 x6 x7 x8 x9 x10 x11 q0 q1 q2 q3 q4 q5 q6 q7 q8 q9 q10 q11 hk hl hd _ hL1 _ _ _ _ _ _ hf hg h4 (hN g4) trivial)
              have e : x4 = cvL [cvI o.pk, cvT o.pn] := congrArg (fun l => at_ l 4) (lists o ho)
              rw [e] at h4
              exact h4 rfl
    · refine bad (fun o ho => hsh ?_) (rd_y b (decV b) hsh (hN g) hd ⟨fun _ => trivial, fun _ => trivial⟩)
      rw [ho]; exact ⟨rfl, rfl⟩
  · have e : decOp b = (zop, decE b) := by unfold decOp; rw [if_neg h0]
    rw [e]
    exact rd_x b _ _ h0 hd trivial
end Go.Ops

/- OPS, 23: the statements' small functions; Few. -/
namespace Go.Ops
set_option maxRecDepth 100000
set_option linter.unusedSimpArgs false
set_option linter.unusedVariables false
open Go Go.Am Go.Proofs Go.Seat Go.Vec Go.Cdc

def fewO (o : OP) : Bool := decide ((o.cx.length : Int) ≤ 600) && decide ((o.ky.size : Int) + o.vl.size + o.pn.size ≤ 20000)

theorem few_w (o : OP) (h1 : o.ky.size ≤ 1000000000000000) (h2 : o.vl.size ≤ 1000000000000000) (h3 : o.pn.size ≤ 1000000000000000) (b : Bool) (h : ((((↑(List.length (encs (OP.cx o))) : Int) ≤ (600 : Int)) → (decide ((↑(ByteArray.size (OP.ky o) + ByteArray.size (OP.vl o) + ByteArray.size (OP.pn o)) : Int) ≤ (20000 : Int))) = (b)) ∧ ((¬(↑(List.length (encs (OP.cx o))) : Int) ≤ (600 : Int)) → (false) = (b)))) : CallC P G 11 [op o] [] (AOut.ret (Am.bool b)) [] := by
  by_cases c1 : ((↑(List.length (encs (OP.cx o))) : Int) ≤ (600 : Int))
  · have h := h.1 c1
    have e1 := h
    exact callC_out (Sub.bool_eq e1) [kt (decide_eq_true c1), kv 14 (show Am.Sub (int (IntKind.wrap IntKind.i64 ((↑(ByteArray.size (OP.ky o)) : Int) + (↑(ByteArray.size (OP.vl o)) : Int)))) (int (↑(ByteArray.size (OP.ky o) + ByteArray.size (OP.vl o)) : Int)) from (Sub.of_wrap (by omega) (by omega) (by omega))), kv 19 (show Am.Sub (int (IntKind.wrap IntKind.i64 ((↑(ByteArray.size (OP.ky o) + ByteArray.size (OP.vl o)) : Int) + (↑(ByteArray.size (OP.pn o)) : Int)))) (int (↑(ByteArray.size (OP.ky o) + ByteArray.size (OP.vl o) + ByteArray.size (OP.pn o)) : Int)) from (Sub.of_wrap (by omega) (by omega) (by omega)))] (by kernel_rfl)
  · have h := h.2 c1
    have e1 := h
    exact callC_out (Sub.bool_eq e1) [kf (decide_eq_false c1)] (by kernel_rfl)

theorem lnum_w (n : Int) (h : True) : CallC P G 29 [int n] [] (AOut.ret (vmk 1 n ByteArray.empty [])) [] := by
  have _ := h
  exact CallC.out ((show CallC P G 29 [int n] [] (AOut.ret (AV.agg [int 1, int n, str (ByteArray.mk #[]), nilS])) [] from callC_of [] (by kernel_rfl))) (Sub.aggs ⟨Sub.refl _, Sub.refl _, Sub.refl _, Sub.nil _, trivial⟩)

theorem ltext_w (s : ByteArray) (h : True) : CallC P G 31 [str s] [] (AOut.ret (vmk 2 0 s [])) [] := by
  have _ := h
  exact CallC.out ((show CallC P G 31 [str s] [] (AOut.ret (AV.agg [int 2, int 0, str s, nilS])) [] from callC_of [] (by kernel_rfl))) (Sub.aggs ⟨Sub.refl _, Sub.refl _, Sub.refl _, Sub.nil _, trivial⟩)

theorem llist_w (t : Bool) (xs : List (List AV)) (h : True) : CallC P G 28 [AV.sl 4 t xs] [] (AOut.ret (AV.agg [int 3, int 0, str ByteArray.empty, AV.sl 4 false xs])) [] := by
  have _ := h
  exact CallC.out ((show CallC P G 28 [AV.sl 4 t xs] [] (AOut.ret (AV.agg [int 3, int 0, str (ByteArray.mk #[]), AV.sl 4 t xs])) [] from callC_of [] (by kernel_rfl))) (Sub.aggs ⟨Sub.refl _, Sub.refl _, Sub.refl _, (Sub.loose _ _ _), trivial⟩)

theorem llist_0  (h : True) : CallC P G 28 [nilS] [] (AOut.ret (vmk 3 0 ByteArray.empty [])) [] := by
  have _ := h
  exact CallC.out ((show CallC P G 28 [nilS] [] (AOut.ret (AV.agg [int 3, int 0, str (ByteArray.mk #[]), nilS])) [] from callC_of [] (by kernel_rfl))) (Sub.aggs ⟨Sub.refl _, Sub.refl _, Sub.refl _, Sub.nil _, trivial⟩)


theorem check_f (a b : OP) (hs : CallC P G 10 [] [] (.ret (bool true)) []) (ha : CallC P G 11 [op a] [] (.ret (bool false)) []) (h : True) : CallC P G 3 [op a, op b] [] (AOut.ret (Am.bool true)) [] := by
  have _ := h
  exact callC_of [kc [] (@hs ), kf (Eq.refl false), kc [] (@ha ), kt (Eq.refl true), kt (Eq.refl true)] (by kernel_rfl)

theorem check_g (a b : OP) (hs : CallC P G 10 [] [] (.ret (bool true)) []) (ha : CallC P G 11 [op a] [] (.ret (bool true)) []) (hb : CallC P G 11 [op b] [] (.ret (bool false)) []) (h : True) : CallC P G 3 [op a, op b] [] (AOut.ret (Am.bool true)) [] := by
  have _ := h
  exact callC_of [kc [] (@hs ), kf (Eq.refl false), kc [] (@ha ), kf (Eq.refl false), kc [] (@hb ), kt (Eq.refl true)] (by kernel_rfl)

theorem check_t (a b : OP) (c d : Int) (e : Bool) (hs : CallC P G 10 [] [] (.ret (bool true)) []) (ha : CallC P G 11 [op a] [] (.ret (bool true)) []) (hb : CallC P G 11 [op b] [] (.ret (bool true)) []) (h1 : CallC P G 12 [op a] [] (.ret (int c)) []) (h2 : CallC P G 13 [op a] [] (.ret (int c)) []) (h3 : CallC P G 14 [op a, op b] [] (.ret (int d)) []) (h4 : CallC P G 15 [op a, op b] [] (.ret (int d)) []) (h5 : CallC P G 16 [op a, op b] [] (.ret (bool e)) []) (h6 : CallC P G 17 [op a, op b] [] (.ret (bool e)) []) (h7 : CallC P G 16 [op a, op a] [] (.ret (bool true)) []) (h : ((((e == e) = true) → True) ∧ (((e == e) = false) → (false) = (true)))) : CallC P G 3 [op a, op b] [] (AOut.ret (Am.bool true)) [] := by
  have hz0 := (@hs )
  have hz1 := (@ha )
  have hz2 := (@hb )
  have hz3 := (@h1 )
  have hz4 := (@h2 )
  have hz5 : (c == c) = true := (decide_eq_true (by omega))
  have hz6 := (@h3 )
  have hz7 := (@h4 )
  have hz8 : (d == d) = true := (decide_eq_true (by omega))
  have hz9 := (@h5 )
  have hz10 := (@h6 )
  rcases Bool.eq_false_or_eq_true ((e == e)) with c3 | c3
  · have h := h.1 c3
    have _ := h
    exact callC_of [kc [] hz0, kf (Eq.refl false), kc [] hz1, kf (Eq.refl false), kc [] hz2, kf (Eq.refl false), kc [] hz3, kc [] hz4, kt hz5, kc [] hz6, kc [] hz7, kt hz8, kc [] hz9, kc [] hz10, kt c3, kc [] (@h7 )] (by kernel_rfl)
  · have h := h.2 c3
    have e1 := h
    exact callC_out (Sub.bool_eq e1) [kc [] hz0, kf (Eq.refl false), kc [] hz1, kf (Eq.refl false), kc [] hz2, kf (Eq.refl false), kc [] hz3, kc [] hz4, kt hz5, kc [] hz6, kc [] hz7, kt hz8, kc [] hz9, kc [] hz10, kf c3] (by kernel_rfl)

theorem contents_f (a : OP) (hs : CallC P G 10 [] [] (.ret (bool true)) []) (ha : CallC P G 11 [op a] [] (.ret (bool false)) []) (h : True) : CallC P G 6 [op a] [] (AOut.ret (Am.bool true)) [] := by
  have _ := h
  exact callC_of [kc [] (@hs ), kf (Eq.refl false), kc [] (@ha ), kt (Eq.refl true)] (by kernel_rfl)

theorem fields_f (a : OP) (w : UInt8) (hs : CallC P G 10 [] [] (.ret (bool true)) []) (ha : CallC P G 11 [op a] [] (.ret (bool false)) []) (h : True) : CallC P G 9 [op a, u8 w] [] (AOut.ret (Am.bool true)) [] := by
  have _ := h
  exact callC_of [kc [] (@hs ), kf (Eq.refl false), kc [] (@ha ), kt (Eq.refl true), kt (Eq.refl true)] (by kernel_rfl)

theorem fields_g (a : OP) (w : UInt8) (c : Int) (hc : c ≠ 0) (hs : CallC P G 10 [] [] (.ret (bool true)) []) (ha : CallC P G 11 [op a] [] (.ret (bool true)) []) (h1 : CallC P G 12 [op a] [] (.ret (int c)) []) (h : True) : CallC P G 9 [op a, u8 w] [] (AOut.ret (Am.bool true)) [] := by
  have _ := h
  exact callC_of [kc [] (@hs ), kf (Eq.refl false), kc [] (@ha ), kf (Eq.refl false), kc [] (@h1 ), kt (show (c != 0) = true from (congrArg Bool.not (decide_eq_false (by omega))))] (by kernel_rfl)

def Sz (o : OP) : Prop := o.ky.size ≤ 1000000000000000 ∧ o.vl.size ≤ 1000000000000000 ∧ o.pn.size ≤ 1000000000000000
theorem few_c (o : OP) (h : Sz o) : CallC P G 11 [op o] [] (.ret (bool (fewO o))) [] := by
  refine few_w o h.1 h.2.1 h.2.2 _ ⟨fun h1 => ?_, fun h1 => ?_⟩
  · rw [encs_length] at h1
    simp only [fewO, h1, decide_true, Bool.true_and, Int.natCast_add]
  · rw [encs_length] at h1
    simp only [fewO, h1, decide_false, Bool.false_and]
theorem lnum_c (n : Int) : CallC P G 29 [int n] [] (.ret (vmk 1 n .empty [])) [] := lnum_w n trivial
theorem ltext_c (s : ByteArray) : CallC P G 31 [str s] [] (.ret (vmk 2 0 s [])) [] := ltext_w s trivial
theorem llist_c (t : Bool) (xs : List (List AV)) : CallC P G 28 [.sl 4 t xs] [] (.ret (.agg [int 3, int 0, str .empty, .sl 4 false xs])) [] := llist_w t xs trivial
theorem llist0_c : CallC P G 28 [nilS] [] (.ret (vmk 3 0 .empty [])) [] := llist_0 trivial

end Go.Ops

/- OPS, 24: the statements' examples. -/
namespace Go.Ops
set_option maxRecDepth 100000
set_option linter.unusedSimpArgs false
set_option linter.unusedVariables false
open Go Go.Am Go.Proofs Go.Seat Go.Vec Go.Cdc

def exO (t : Int) : OP := ⟨1, 1, t, [], 3, ⟨#[99]⟩, 5, 0, 0, 0, 0, 0, 0, .empty, .empty, 5, false⟩
def exU : OP := ⟨1, 1, 1, [], 1, .empty, 2, 2, 1, 0, 0, 0, 0, .empty, .empty, 0, false⟩

theorem sane_w (b : List UInt8) (hE : CallC P G 18 [op (exO 1)] [] (.ret (.tup [byt b, int 0])) []) (hF : CallC P G 30 [val (opV (exO 1))] [] (.ret (.tup [byt b, int 0])) []) (hD : CallC P G 20 [byt b] [] (.ret (.tup [op (exO 1), int 0])) []) (h0 : CallC P G 20 [byt []] [] (.ret (.tup [op zop, int 10])) []) (hI : CallC P G 22 [byt []] [] (.ret (.tup [val default, int 10])) []) (hS : CallC P G 16 [op (exO 1), op (exO 1)] [] (.ret (bool true)) []) (hC0 : CallC P G 12 [op zop] [] (.ret (int 170)) []) (hC1 : CallC P G 12 [op (exO 1)] [] (.ret (int 0)) []) (hM0 : CallC P G 14 [op (exO 1), op (exO 1)] [] (.ret (int 0)) []) (hM1 : CallC P G 14 [op (exO 1), op (exO 2)] [] (.ret (int (-1))) []) (hM2 : CallC P G 14 [op (exO 2), op (exO 1)] [] (.ret (int 1)) []) (hC2 : CallC P G 12 [op exU] [] (.ret (int 170)) []) (hS2 : CallC P G 16 [op (exO 1), op (exO 2)] [] (.ret (bool false)) []) (hb : 0 < b.length) (hb2 : b.length ≤ 1000) (hbb : (ByteArray.toList ⟨b.toArray⟩ == ByteArray.toList ⟨b.toArray⟩) = true) (h : True) : CallC P G 10 [] [] (AOut.ret (Am.bool true)) [] := by
  have hz1 := (@Go.Ops.lnum_c (0))
  have hz3 := (@Go.Ops.lnum_c (1))
  have hz8 := (@Go.Ops.lnum_c (5))
  have hz9 := (@Go.Ops.ltext_c (ByteArray.mk #[]))
  have hz17 : bys b = List.map (fun (c : UInt8) => [AV.lit (Value.int IntKind.u8 (↑(UInt8.toNat c) : Int))]) (Array.toList (Array.mk b)) := (rfl)
  have _ := h
  exact callC_of [kc [] (show CallC P G 18 [AV.agg [int 1, int 1, int 1, nilS, int 3, str (ByteArray.mk #[99]), int 5, int 0, int 0, int 0, int 0, int 0, int 0, str (ByteArray.mk #[]), str (ByteArray.mk #[]), int 5, Am.bool false]] [] (AOut.ret (AV.tup [AV.sl 1 false (bys b), int 0])) [] from (CallC.args' (@hE ) ⟨Sub.aggs ⟨Sub.refl _, Sub.refl _, Sub.refl _, Sub.nil _, Sub.refl _, Sub.refl _, Sub.refl _, Sub.refl _, Sub.refl _, Sub.refl _, Sub.refl _, Sub.refl _, Sub.refl _, Sub.refl _, Sub.refl _, Sub.refl _, Sub.refl _, trivial⟩, trivial⟩)), kc [] hz1, kc [] hz1, kc [] hz1, kc [] (@Go.Ops.llist_c (true) ([[int 1, int 0, str ByteArray.empty, AV.sl 4 false []], [int 1, int 0, str ByteArray.empty, AV.sl 4 false []], [int 1, int 0, str ByteArray.empty, AV.sl 4 false []]])), kc [] hz3, kc [] hz3, kc [] hz3, kc [] (@Go.Ops.llist0_c ), kc [] (@Go.Ops.lnum_c (3)), kc [] (@Go.Ops.ltext_c (ByteArray.mk #[99])), kc [] (@Go.Ops.llist_c (true) ([[int 1, int 3, str ByteArray.empty, AV.sl 4 false []], [int 2, int 0, str (ByteArray.mk #[99]), AV.sl 4 false []]])), kc [] hz8, kc [] hz9, kc [] hz9, kc [] hz8, kc [] hz1, kc [] (@Go.Ops.llist_c (true) ([[int 1, int 1, str ByteArray.empty, AV.sl 4 false []], [int 1, int 1, str ByteArray.empty, AV.sl 4 false []], [int 1, int 1, str ByteArray.empty, AV.sl 4 false []], [int 3, int 0, str ByteArray.empty, AV.sl 4 false []], [int 3, int 0, str ByteArray.empty, AV.sl 4 false [[int 1, int 3, str ByteArray.empty, AV.sl 4 false []], [int 2, int 0, str (ByteArray.mk #[99]), AV.sl 4 false []]]], [int 1, int 5, str ByteArray.empty, AV.sl 4 false []], [int 3, int 0, str ByteArray.empty, AV.sl 4 false [[int 1, int 0, str ByteArray.empty, AV.sl 4 false []], [int 1, int 0, str ByteArray.empty, AV.sl 4 false []], [int 1, int 0, str ByteArray.empty, AV.sl 4 false []]]], [int 3, int 0, str ByteArray.empty, AV.sl 4 false [[int 1, int 0, str ByteArray.empty, AV.sl 4 false []], [int 1, int 0, str ByteArray.empty, AV.sl 4 false []], [int 1, int 0, str ByteArray.empty, AV.sl 4 false []]]], [int 2, int 0, str (ByteArray.mk #[]), AV.sl 4 false []], [int 2, int 0, str (ByteArray.mk #[]), AV.sl 4 false []], [int 1, int 5, str ByteArray.empty, AV.sl 4 false []], [int 1, int 0, str ByteArray.empty, AV.sl 4 false []]])), kc [] (@hF ), kc [] (@hD ), kc [] (show CallC P G 20 [nilS] [] (AOut.ret (AV.tup [AV.agg [int 0, int 0, int 0, AV.sl 2 false [], int 0, str (OP.pn zop), int 0, int 0, int 0, int 0, int 0, int 0, int 0, str (OP.ky zop), str (OP.vl zop), int 0, Am.bool false], int 10])) [] from (CallC.args' (@h0 ) ⟨Sub.nil _, trivial⟩)), kc [] (show CallC P G 22 [nilS] [] (AOut.ret (AV.tup [AV.agg [int 0, int 0, str (CV.s default), AV.sl 4 false []], int 10])) [] from (CallC.args' (@hI ) ⟨Sub.nil _, trivial⟩)), kt (Eq.refl true), kt (Eq.refl true), kv 77 (show Am.Sub (int (↑(List.length (bys b)) : Int)) (int (↑(List.length b) : Int)) from (Sub.of_eq (by simp only [Go.Cdc.bys_length]))), kt (show decide ((↑(List.length b) : Int) > (0 : Int)) = true from (decide_eq_true (by omega))), ko (Orc.bytes (ByteArray.mk (List.toArray b))), ko (Orc.bytes (ByteArray.mk (List.toArray b))), kp hz17, kp hz17, kt hbb, kt (Eq.refl true), kc [] (show CallC P G 16 [AV.agg [int 1, int 1, int 1, AV.sl 2 false [], int 3, str (OP.pn (exO 1)), int 5, int 0, int 0, int 0, int 0, int 0, int 0, str (OP.ky (exO 1)), str (OP.vl (exO 1)), int 5, Am.bool false], AV.agg [int 1, int 1, int 1, nilS, int 3, str (ByteArray.mk #[99]), int 5, int 0, int 0, int 0, int 0, int 0, int 0, str (ByteArray.mk #[]), str (ByteArray.mk #[]), int 5, Am.bool false]] [] (AOut.ret (Am.bool true)) [] from (CallC.args' (@hS ) ⟨Sub.refl _, Sub.aggs ⟨Sub.refl _, Sub.refl _, Sub.refl _, Sub.nil _, Sub.refl _, Sub.refl _, Sub.refl _, Sub.refl _, Sub.refl _, Sub.refl _, Sub.refl _, Sub.refl _, Sub.refl _, Sub.refl _, Sub.refl _, Sub.refl _, Sub.refl _, trivial⟩, trivial⟩)), kt (Eq.refl true), kt (Eq.refl true), kt (Eq.refl true), kc [] (show CallC P G 12 [AV.agg [int 0, int 0, int 0, nilS, int 0, str (ByteArray.mk #[]), int 0, int 0, int 0, int 0, int 0, int 0, int 0, str (ByteArray.mk #[]), str (ByteArray.mk #[]), int 0, Am.bool false]] [] (AOut.ret (int 170)) [] from (CallC.args' (@hC0 ) ⟨Sub.aggs ⟨Sub.refl _, Sub.refl _, Sub.refl _, Sub.nil _, Sub.refl _, Sub.refl _, Sub.refl _, Sub.refl _, Sub.refl _, Sub.refl _, Sub.refl _, Sub.refl _, Sub.refl _, Sub.refl _, Sub.refl _, Sub.refl _, Sub.refl _, trivial⟩, trivial⟩)), kt (Eq.refl true), kc [] (show CallC P G 12 [AV.agg [int 1, int 1, int 1, nilS, int 3, str (ByteArray.mk #[99]), int 5, int 0, int 0, int 0, int 0, int 0, int 0, str (ByteArray.mk #[]), str (ByteArray.mk #[]), int 5, Am.bool false]] [] (AOut.ret (int 0)) [] from (CallC.args' (@hC1 ) ⟨Sub.aggs ⟨Sub.refl _, Sub.refl _, Sub.refl _, Sub.nil _, Sub.refl _, Sub.refl _, Sub.refl _, Sub.refl _, Sub.refl _, Sub.refl _, Sub.refl _, Sub.refl _, Sub.refl _, Sub.refl _, Sub.refl _, Sub.refl _, Sub.refl _, trivial⟩, trivial⟩)), kt (Eq.refl true), kc [] (show CallC P G 14 [AV.agg [int 1, int 1, int 1, nilS, int 3, str (ByteArray.mk #[99]), int 5, int 0, int 0, int 0, int 0, int 0, int 0, str (ByteArray.mk #[]), str (ByteArray.mk #[]), int 5, Am.bool false], AV.agg [int 1, int 1, int 1, nilS, int 3, str (ByteArray.mk #[99]), int 5, int 0, int 0, int 0, int 0, int 0, int 0, str (ByteArray.mk #[]), str (ByteArray.mk #[]), int 5, Am.bool false]] [] (AOut.ret (int 0)) [] from (CallC.args' (@hM0 ) ⟨Sub.aggs ⟨Sub.refl _, Sub.refl _, Sub.refl _, Sub.nil _, Sub.refl _, Sub.refl _, Sub.refl _, Sub.refl _, Sub.refl _, Sub.refl _, Sub.refl _, Sub.refl _, Sub.refl _, Sub.refl _, Sub.refl _, Sub.refl _, Sub.refl _, trivial⟩, Sub.aggs ⟨Sub.refl _, Sub.refl _, Sub.refl _, Sub.nil _, Sub.refl _, Sub.refl _, Sub.refl _, Sub.refl _, Sub.refl _, Sub.refl _, Sub.refl _, Sub.refl _, Sub.refl _, Sub.refl _, Sub.refl _, Sub.refl _, Sub.refl _, trivial⟩, trivial⟩)), kt (Eq.refl true), kc [] (show CallC P G 14 [AV.agg [int 1, int 1, int 1, nilS, int 3, str (ByteArray.mk #[99]), int 5, int 0, int 0, int 0, int 0, int 0, int 0, str (ByteArray.mk #[]), str (ByteArray.mk #[]), int 5, Am.bool false], AV.agg [int 1, int 1, int 2, nilS, int 3, str (ByteArray.mk #[99]), int 5, int 0, int 0, int 0, int 0, int 0, int 0, str (ByteArray.mk #[]), str (ByteArray.mk #[]), int 5, Am.bool false]] [] (AOut.ret (int (-1))) [] from (CallC.args' (@hM1 ) ⟨Sub.aggs ⟨Sub.refl _, Sub.refl _, Sub.refl _, Sub.nil _, Sub.refl _, Sub.refl _, Sub.refl _, Sub.refl _, Sub.refl _, Sub.refl _, Sub.refl _, Sub.refl _, Sub.refl _, Sub.refl _, Sub.refl _, Sub.refl _, Sub.refl _, trivial⟩, Sub.aggs ⟨Sub.refl _, Sub.refl _, Sub.refl _, Sub.nil _, Sub.refl _, Sub.refl _, Sub.refl _, Sub.refl _, Sub.refl _, Sub.refl _, Sub.refl _, Sub.refl _, Sub.refl _, Sub.refl _, Sub.refl _, Sub.refl _, Sub.refl _, trivial⟩, trivial⟩)), kt (Eq.refl true), kc [] (show CallC P G 14 [AV.agg [int 1, int 1, int 2, nilS, int 3, str (ByteArray.mk #[99]), int 5, int 0, int 0, int 0, int 0, int 0, int 0, str (ByteArray.mk #[]), str (ByteArray.mk #[]), int 5, Am.bool false], AV.agg [int 1, int 1, int 1, nilS, int 3, str (ByteArray.mk #[99]), int 5, int 0, int 0, int 0, int 0, int 0, int 0, str (ByteArray.mk #[]), str (ByteArray.mk #[]), int 5, Am.bool false]] [] (AOut.ret (int 1)) [] from (CallC.args' (@hM2 ) ⟨Sub.aggs ⟨Sub.refl _, Sub.refl _, Sub.refl _, Sub.nil _, Sub.refl _, Sub.refl _, Sub.refl _, Sub.refl _, Sub.refl _, Sub.refl _, Sub.refl _, Sub.refl _, Sub.refl _, Sub.refl _, Sub.refl _, Sub.refl _, Sub.refl _, trivial⟩, Sub.aggs ⟨Sub.refl _, Sub.refl _, Sub.refl _, Sub.nil _, Sub.refl _, Sub.refl _, Sub.refl _, Sub.refl _, Sub.refl _, Sub.refl _, Sub.refl _, Sub.refl _, Sub.refl _, Sub.refl _, Sub.refl _, Sub.refl _, Sub.refl _, trivial⟩, trivial⟩)), kt (Eq.refl true), kc [] (show CallC P G 12 [AV.agg [int 1, int 1, int 1, nilS, int 1, str (ByteArray.mk #[]), int 2, int 2, int 1, int 0, int 0, int 0, int 0, str (ByteArray.mk #[]), str (ByteArray.mk #[]), int 0, Am.bool false]] [] (AOut.ret (int 170)) [] from (CallC.args' (@hC2 ) ⟨Sub.aggs ⟨Sub.refl _, Sub.refl _, Sub.refl _, Sub.nil _, Sub.refl _, Sub.refl _, Sub.refl _, Sub.refl _, Sub.refl _, Sub.refl _, Sub.refl _, Sub.refl _, Sub.refl _, Sub.refl _, Sub.refl _, Sub.refl _, Sub.refl _, trivial⟩, trivial⟩)), kt (Eq.refl true), kc [] (show CallC P G 16 [AV.agg [int 1, int 1, int 1, nilS, int 3, str (ByteArray.mk #[99]), int 5, int 0, int 0, int 0, int 0, int 0, int 0, str (ByteArray.mk #[]), str (ByteArray.mk #[]), int 5, Am.bool false], AV.agg [int 1, int 1, int 2, nilS, int 3, str (ByteArray.mk #[99]), int 5, int 0, int 0, int 0, int 0, int 0, int 0, str (ByteArray.mk #[]), str (ByteArray.mk #[]), int 5, Am.bool false]] [] (AOut.ret (Am.bool false)) [] from (CallC.args' (@hS2 ) ⟨Sub.aggs ⟨Sub.refl _, Sub.refl _, Sub.refl _, Sub.nil _, Sub.refl _, Sub.refl _, Sub.refl _, Sub.refl _, Sub.refl _, Sub.refl _, Sub.refl _, Sub.refl _, Sub.refl _, Sub.refl _, Sub.refl _, Sub.refl _, Sub.refl _, trivial⟩, Sub.aggs ⟨Sub.refl _, Sub.refl _, Sub.refl _, Sub.nil _, Sub.refl _, Sub.refl _, Sub.refl _, Sub.refl _, Sub.refl _, Sub.refl _, Sub.refl _, Sub.refl _, Sub.refl _, Sub.refl _, Sub.refl _, Sub.refl _, Sub.refl _, trivial⟩, trivial⟩))] (by kernel_rfl)


end Go.Ops

/- OPS, 25: the examples hold; the first statement; plain facts for the others. -/
namespace Go.Ops
set_option maxRecDepth 100000
set_option linter.unusedSimpArgs false
set_option linter.unusedVariables false
open Go Go.Am Go.Proofs Go.Seat Go.Vec Go.Cdc

theorem fewO_few {o : OP} (h : fewO o = true) : Few 20000 o := by
  simp only [fewO, Bool.and_eq_true, decide_eq_true_eq] at h
  obtain ⟨h1, h2⟩ := h
  exact ⟨by omega, by omega, by omega, by omega⟩
theorem fewO_cx {o : OP} (h : fewO o = true) : o.cx.length ≤ 600 := by
  simp only [fewO, Bool.and_eq_true, decide_eq_true_eq] at h
  omega
theorem dec_of_enc (o : OP) {B : Nat} (hB : B ≤ 200000) (h : Okp o) (f : Few B o) (h0 : chkOE o = 0) : decOp (encB (opV o)) = (o, 0) := by
  obtain ⟨e1, e2⟩ := dec_enc (opV o) (opV_wf o) (opV_ok (by omega) h f) (by have := opV_dp o; omega)
  unfold decOp
  rw [e1, e2, decO_opV, if_pos rfl, if_pos ⟨h0, rfl⟩]
theorem chk01 (o : OP) : chkOE o = 0 ∨ chkOE o = 170 := by
  unfold chkOE; split <;> simp
theorem exO_okp (t : Int) (h : I64 t) : Okp (exO t) := by
  constructor <;> first | exact h | (simp [exO, I64])
theorem exU_okp : Okp exU := by
  constructor <;> simp [exU, I64]
theorem zop_okp : Okp zop := by
  constructor <;> simp [zop, I64]
theorem exO_few (t : Int) : Few 100 (exO t) := ⟨by simp [exO], by simp [exO], by simp [exO], (by decide : (ByteArray.mk #[99]).size ≤ 100)⟩
theorem exU_few : Few 100 exU := ⟨by simp [exU], by simp [exU], by simp [exU], by simp [exU]⟩
theorem zop_few : Few 100 zop := ⟨by simp [zop], by simp [zop], by simp [zop], by simp [zop]⟩
theorem chk_ex1 : chkOE (exO 1) = 0 := by decide
theorem chk_ex2 : chkOE (exO 2) = 0 := by decide
theorem chk_exU : chkOE exU = 170 := by decide
theorem chk_z : chkOE zop = 170 := by decide
theorem exO_enc : (encB (opV (exO 1))).length = 43 := by rfl
theorem sane_c : CallC P G 10 [] [] (.ret (bool true)) [] := by
  have i1 : I64 (1 : Int) := by simp [I64]
  have i2 : I64 (2 : Int) := by simp [I64]
  have hE := enc_c (exO 1) (B := 100) (by decide) (exO_okp 1 i1) (exO_few 1)
  rw [encO, if_pos chk_ex1, chk_ex1] at hE
  have hF := encode_ok (opV (exO 1)) (opV_ok (by decide) (exO_okp 1 i1) (exO_few 1)) (by have := opV_dp (exO 1); omega) (opV_wf _) (by rw [exO_enc]; decide)
  have hD := dec_cc (encB (opV (exO 1))) (by rw [exO_enc]; decide)
  rw [dec_of_enc (exO 1) (B := 100) (by decide) (exO_okp 1 i1) (exO_few 1) chk_ex1] at hD
  have h0 := dec_cc [] (by decide)
  have d0 : decOp [] = (zop, 10) := by rfl
  rw [d0] at h0
  have hI := decode_c [] (by decide)
  rw [bad1.1, bad1.2] at hI
  have hS := same_c (exO 1) (exO 1) (by simp [exO])
  have hS2 := same_c (exO 1) (exO 2) (by simp [exO])
  rw [decide_eq_true rfl] at hS
  have e2 : decide (exO 1 = exO 2) = false := by decide
  rw [e2] at hS2
  have hC0 := check_c zop (zop_okp.okn (by decide) zop_few)
  have hC1 := check_c (exO 1) ((exO_okp 1 i1).okn (by decide) (exO_few 1))
  have hC2 := check_c exU (exU_okp.okn (by decide) exU_few)
  rw [chk_z] at hC0
  rw [chk_ex1] at hC1
  rw [chk_exU] at hC2
  have hE2 := enc_c (exO 2) (B := 100) (by decide) (exO_okp 2 i2) (exO_few 2)
  have hM0 := cmp_c (exO 1) (exO 1) _ _ _ _ hE hE
  have hM1 := cmp_c (exO 1) (exO 2) _ _ _ _ hE hE2
  have hM2 := cmp_c (exO 2) (exO 1) _ _ _ _ hE2 hE
  have m0 : cmpOV (exO 1) (exO 1) (encB (opV (exO 1))) (encB (opV (exO 1))) = 0 := by
    unfold cmpOV
    rw [if_pos (by decide)]
    exact (cmp_eq0 _ _).2 rfl
  have m1 : ∀ x y, cmpOV (exO 1) (exO 2) x y = -1 := fun x y => by
    unfold cmpOV
    rw [if_neg (by decide)]
    decide
  have m2 : ∀ x y, cmpOV (exO 2) (exO 1) x y = 1 := fun x y => by
    unfold cmpOV
    rw [if_neg (by decide)]
    decide
  rw [m0] at hM0
  rw [m1] at hM1
  rw [m2] at hM2
  exact sane_w _ hE hF hD h0 hI hS hC0 hC1 hM0 hM1 hM2 hC2 hS2 (by rw [exO_enc]; decide) (by rw [exO_enc]; decide) (by simp) trivial

/-- OpsCheckSpec. -/
theorem spec_check (a b : OP) (oa : Okp a) (ob : Okp b) (sa : Sz a) (sb : Sz b) : CallC P G 3 [op a, op b] [] (.ret (bool true)) [] := by
  have fa := few_c a sa
  have fb := few_c b sb
  cases ha : fewO a with
  | false => rw [ha] at fa; exact check_f a b sane_c fa trivial
  | true =>
    rw [ha] at fa
    cases hb : fewO b with
    | false => rw [hb] at fb; exact check_g a b sane_c fa fb trivial
    | true =>
      rw [hb] at fb
      have qa := fewO_few ha
      have qb := fewO_few hb
      have la := fewO_cx ha
      have h7 := same_c a a (by omega)
      rw [decide_eq_true rfl] at h7
      refine check_t a b _ _ _ sane_c fa fb (check_c a (oa.okn (by decide) qa)) (rcheck_c a (oa.okn (by decide) qa))
        (cmp_c a b _ _ _ _ (enc_c a (by decide) oa qa) (enc_c b (by decide) ob qb))
        (rcmp_c a b _ _ _ _ (renco_c a (by decide) oa qa) (renco_c b (by decide) ob qb))
        (same_c a b (by omega)) (rsame_c a b (by omega)) h7 ⟨fun _ => trivial, fun h => ?_⟩
      simp at h

end Go.Ops

/- OPS, 26: the statements' walks. -/
namespace Go.Ops
set_option maxRecDepth 100000
set_option linter.unusedSimpArgs false
set_option linter.unusedVariables false
open Go Go.Am Go.Proofs Go.Seat Go.Vec Go.Cdc

theorem enc_f (o : OP) (b : List UInt8) (hs : CallC P G 10 [] [] (.ret (bool true)) []) (ha : CallC P G 11 [op o] [] (.ret (bool false)) []) (h : True) : CallC P G 4 [op o, byt b] [] (AOut.ret (Am.bool true)) [] := by
  have _ := h
  exact callC_of [kc [] (@hs ), kf (Eq.refl false), kc [] (@ha ), kt (Eq.refl true), kt (Eq.refl true)] (by kernel_rfl)


theorem enc_l (o : OP) (b : List UInt8) (hl : b.length ≤ 9223372036854775807) (hb : 2000 < b.length) (hs : CallC P G 10 [] [] (.ret (bool true)) []) (ha : CallC P G 11 [op o] [] (.ret (bool true)) []) (h : True) : CallC P G 4 [op o, byt b] [] (AOut.ret (Am.bool true)) [] := by
  have _ := h
  exact callC_of [kc [] (@hs ), kf (Eq.refl false), kc [] (@ha ), kf (Eq.refl false), kv 22 (show Am.Sub (int (↑(List.length (bys b)) : Int)) (int (↑(List.length b) : Int)) from (Sub.of_eq (by simp only [Go.Cdc.bys_length]))), kt (show decide ((↑(List.length b) : Int) > (2000 : Int)) = true from (decide_eq_true (by omega)))] (by kernel_rfl)


theorem back_f (o : OP) (b : List UInt8) (hs : CallC P G 10 [] [] (.ret (bool true)) []) (ha : CallC P G 11 [op o] [] (.ret (bool false)) []) (h : True) : CallC P G 5 [op o, byt b] [] (AOut.ret (Am.bool true)) [] := by
  have _ := h
  exact callC_of [kc [] (@hs ), kf (Eq.refl false), kc [] (@ha ), kt (Eq.refl true), kt (Eq.refl true)] (by kernel_rfl)


theorem back_l (o : OP) (b : List UInt8) (hl : b.length ≤ 9223372036854775807) (hb : 2000 < b.length) (hs : CallC P G 10 [] [] (.ret (bool true)) []) (ha : CallC P G 11 [op o] [] (.ret (bool true)) []) (h : True) : CallC P G 5 [op o, byt b] [] (AOut.ret (Am.bool true)) [] := by
  have _ := h
  exact callC_of [kc [] (@hs ), kf (Eq.refl false), kc [] (@ha ), kf (Eq.refl false), kv 20 (show Am.Sub (int (↑(List.length (bys b)) : Int)) (int (↑(List.length b) : Int)) from (Sub.of_eq (by simp only [Go.Cdc.bys_length]))), kt (show decide ((↑(List.length b) : Int) > (2000 : Int)) = true from (decide_eq_true (by omega)))] (by kernel_rfl)


theorem back_00 (o : OP) (b : List UInt8) (hb : b.length ≤ 2000) (hs : CallC P G 10 [] [] (.ret (bool true)) []) (ha : CallC P G 11 [op o] [] (.ret (bool true)) []) (x : List UInt8) (h1 : CallC P G 18 [op o] [] (.ret (.tup [byt x, int 0])) []) (h2 : CallC P G 12 [op o] [] (.ret (int 0)) []) (h3 : CallC P G 20 [byt x] [] (.ret (.tup [op o, int 0])) []) (h4 : CallC P G 17 [op o, op o] [] (.ret (bool true)) []) (z : OP) (k1 : CallC P G 20 [byt b] [] (.ret (.tup [op z, int 0])) []) (k2 : CallC P G 18 [op z] [] (.ret (.tup [byt b, int 0])) []) (kb : (ByteArray.toList ⟨b.toArray⟩ == ByteArray.toList ⟨b.toArray⟩) = true) (h : (ByteArray.toList (ByteArray.mk (List.toArray b)) == ByteArray.toList (ByteArray.mk (List.toArray b))) = (true)) : CallC P G 5 [op o, byt b] [] (AOut.ret (Am.bool true)) [] := by
  have hz10 : bys b = List.map (fun (c : UInt8) => [AV.lit (Value.int IntKind.u8 (↑(UInt8.toNat c) : Int))]) (Array.toList (Array.mk b)) := (rfl)
  have e1 := h
  exact callC_out (Sub.bool_eq e1) [kc [] (@hs ), kf (Eq.refl false), kc [] (@ha ), kf (Eq.refl false), kv 20 (show Am.Sub (int (↑(List.length (bys b)) : Int)) (int (↑(List.length b) : Int)) from (Sub.of_eq (by simp only [Go.Cdc.bys_length]))), kf (show decide ((↑(List.length b) : Int) > (2000 : Int)) = false from (decide_eq_false (by omega))), kc [] (@h1 ), kc [] (@h2 ), kf (Eq.refl false), kf (Eq.refl false), kf (Eq.refl false), kt (Eq.refl true), kc [] (@h3 ), kf (Eq.refl false), kc [] (@h4 ), kf (Eq.refl false), kc [] (@k1 ), kf (Eq.refl false), kc [] (@k2 ), kt (Eq.refl true), ko (Orc.bytes (ByteArray.mk (List.toArray b))), ko (Orc.bytes (ByteArray.mk (List.toArray b))), kp hz10, kp hz10] (by kernel_rfl)


theorem back_01 (o : OP) (b : List UInt8) (hb : b.length ≤ 2000) (hs : CallC P G 10 [] [] (.ret (bool true)) []) (ha : CallC P G 11 [op o] [] (.ret (bool true)) []) (x : List UInt8) (h1 : CallC P G 18 [op o] [] (.ret (.tup [byt x, int 0])) []) (h2 : CallC P G 12 [op o] [] (.ret (int 0)) []) (h3 : CallC P G 20 [byt x] [] (.ret (.tup [op o, int 0])) []) (h4 : CallC P G 17 [op o, op o] [] (.ret (bool true)) []) (g : Int) (hg : g ≠ 0) (k1 : CallC P G 20 [byt b] [] (.ret (.tup [op zop, int g])) []) (k2 : CallC P G 17 [op zop, op zop] [] (.ret (bool true)) []) (h : True) : CallC P G 5 [op o, byt b] [] (AOut.ret (Am.bool true)) [] := by
  have _ := h
  exact callC_of [kc [] (@hs ), kf (Eq.refl false), kc [] (@ha ), kf (Eq.refl false), kv 20 (show Am.Sub (int (↑(List.length (bys b)) : Int)) (int (↑(List.length b) : Int)) from (Sub.of_eq (by simp only [Go.Cdc.bys_length]))), kf (show decide ((↑(List.length b) : Int) > (2000 : Int)) = false from (decide_eq_false (by omega))), kc [] (@h1 ), kc [] (@h2 ), kf (Eq.refl false), kf (Eq.refl false), kf (Eq.refl false), kt (Eq.refl true), kc [] (@h3 ), kf (Eq.refl false), kc [] (@h4 ), kf (Eq.refl false), kc [] (@k1 ), kt (show (g != 0) = true from (congrArg Bool.not (decide_eq_false (by omega)))), kc [] (show CallC P G 17 [AV.agg [int 0, int 0, int 0, AV.sl 2 false [], int 0, str (OP.pn zop), int 0, int 0, int 0, int 0, int 0, int 0, int 0, str (OP.ky zop), str (OP.vl zop), int 0, Am.bool false], AV.agg [int 0, int 0, int 0, nilS, int 0, str (ByteArray.mk #[]), int 0, int 0, int 0, int 0, int 0, int 0, int 0, str (ByteArray.mk #[]), str (ByteArray.mk #[]), int 0, Am.bool false]] [] (AOut.ret (Am.bool true)) [] from (CallC.args' (@k2 ) ⟨Sub.refl _, Sub.aggs ⟨Sub.refl _, Sub.refl _, Sub.refl _, Sub.nil _, Sub.refl _, Sub.refl _, Sub.refl _, Sub.refl _, Sub.refl _, Sub.refl _, Sub.refl _, Sub.refl _, Sub.refl _, Sub.refl _, Sub.refl _, Sub.refl _, Sub.refl _, trivial⟩, trivial⟩))] (by kernel_rfl)


theorem back_10 (o : OP) (b : List UInt8) (hb : b.length ≤ 2000) (hs : CallC P G 10 [] [] (.ret (bool true)) []) (ha : CallC P G 11 [op o] [] (.ret (bool true)) []) (h1 : CallC P G 18 [op o] [] (.ret (.tup [byt [], int 170])) []) (h2 : CallC P G 12 [op o] [] (.ret (int 170)) []) (z : OP) (k1 : CallC P G 20 [byt b] [] (.ret (.tup [op z, int 0])) []) (k2 : CallC P G 18 [op z] [] (.ret (.tup [byt b, int 0])) []) (kb : (ByteArray.toList ⟨b.toArray⟩ == ByteArray.toList ⟨b.toArray⟩) = true) (h : (ByteArray.toList (ByteArray.mk (List.toArray b)) == ByteArray.toList (ByteArray.mk (List.toArray b))) = (true)) : CallC P G 5 [op o, byt b] [] (AOut.ret (Am.bool true)) [] := by
  have hz8 : bys b = List.map (fun (c : UInt8) => [AV.lit (Value.int IntKind.u8 (↑(UInt8.toNat c) : Int))]) (Array.toList (Array.mk b)) := (rfl)
  have e1 := h
  exact callC_out (Sub.bool_eq e1) [kc [] (@hs ), kf (Eq.refl false), kc [] (@ha ), kf (Eq.refl false), kv 20 (show Am.Sub (int (↑(List.length (bys b)) : Int)) (int (↑(List.length b) : Int)) from (Sub.of_eq (by simp only [Go.Cdc.bys_length]))), kf (show decide ((↑(List.length b) : Int) > (2000 : Int)) = false from (decide_eq_false (by omega))), kc [] (@h1 ), kc [] (@h2 ), kf (Eq.refl false), kt (Eq.refl true), kf (Eq.refl false), kf (Eq.refl false), kc [] (@k1 ), kf (Eq.refl false), kc [] (@k2 ), kt (Eq.refl true), ko (Orc.bytes (ByteArray.mk (List.toArray b))), ko (Orc.bytes (ByteArray.mk (List.toArray b))), kp hz8, kp hz8] (by kernel_rfl)


theorem back_11 (o : OP) (b : List UInt8) (hb : b.length ≤ 2000) (hs : CallC P G 10 [] [] (.ret (bool true)) []) (ha : CallC P G 11 [op o] [] (.ret (bool true)) []) (h1 : CallC P G 18 [op o] [] (.ret (.tup [byt [], int 170])) []) (h2 : CallC P G 12 [op o] [] (.ret (int 170)) []) (g : Int) (hg : g ≠ 0) (k1 : CallC P G 20 [byt b] [] (.ret (.tup [op zop, int g])) []) (k2 : CallC P G 17 [op zop, op zop] [] (.ret (bool true)) []) (h : True) : CallC P G 5 [op o, byt b] [] (AOut.ret (Am.bool true)) [] := by
  have _ := h
  exact callC_of [kc [] (@hs ), kf (Eq.refl false), kc [] (@ha ), kf (Eq.refl false), kv 20 (show Am.Sub (int (↑(List.length (bys b)) : Int)) (int (↑(List.length b) : Int)) from (Sub.of_eq (by simp only [Go.Cdc.bys_length]))), kf (show decide ((↑(List.length b) : Int) > (2000 : Int)) = false from (decide_eq_false (by omega))), kc [] (@h1 ), kc [] (@h2 ), kf (Eq.refl false), kt (Eq.refl true), kf (Eq.refl false), kf (Eq.refl false), kc [] (@k1 ), kt (show (g != 0) = true from (congrArg Bool.not (decide_eq_false (by omega)))), kc [] (show CallC P G 17 [AV.agg [int 0, int 0, int 0, AV.sl 2 false [], int 0, str (OP.pn zop), int 0, int 0, int 0, int 0, int 0, int 0, int 0, str (OP.ky zop), str (OP.vl zop), int 0, Am.bool false], AV.agg [int 0, int 0, int 0, nilS, int 0, str (ByteArray.mk #[]), int 0, int 0, int 0, int 0, int 0, int 0, int 0, str (ByteArray.mk #[]), str (ByteArray.mk #[]), int 0, Am.bool false]] [] (AOut.ret (Am.bool true)) [] from (CallC.args' (@k2 ) ⟨Sub.refl _, Sub.aggs ⟨Sub.refl _, Sub.refl _, Sub.refl _, Sub.nil _, Sub.refl _, Sub.refl _, Sub.refl _, Sub.refl _, Sub.refl _, Sub.refl _, Sub.refl _, Sub.refl _, Sub.refl _, Sub.refl _, Sub.refl _, Sub.refl _, Sub.refl _, trivial⟩, trivial⟩))] (by kernel_rfl)


theorem ord_fa (a b c : OP) (hs : CallC P G 10 [] [] (.ret (bool true)) []) (fa : CallC P G 11 [op a] [] (.ret (bool false)) []) (h : True) : CallC P G 7 [op a, op b, op c] [] (AOut.ret (Am.bool true)) [] := by
  have _ := h
  exact callC_of [kc [] (@hs ), kf (Eq.refl false), kc [] (@fa ), kt (Eq.refl true), kt (Eq.refl true), kt (Eq.refl true), kt (Eq.refl true), kt (Eq.refl true), kt (Eq.refl true)] (by kernel_rfl)


theorem ord_fb (a b c : OP) (hs : CallC P G 10 [] [] (.ret (bool true)) []) (fa : CallC P G 11 [op a] [] (.ret (bool true)) []) (fb : CallC P G 11 [op b] [] (.ret (bool false)) []) (h : True) : CallC P G 7 [op a, op b, op c] [] (AOut.ret (Am.bool true)) [] := by
  have _ := h
  exact callC_of [kc [] (@hs ), kf (Eq.refl false), kc [] (@fa ), kf (Eq.refl false), kc [] (@fb ), kt (Eq.refl true), kt (Eq.refl true), kt (Eq.refl true), kt (Eq.refl true), kt (Eq.refl true)] (by kernel_rfl)


theorem ord_fc (a b c : OP) (hs : CallC P G 10 [] [] (.ret (bool true)) []) (fa : CallC P G 11 [op a] [] (.ret (bool true)) []) (fb : CallC P G 11 [op b] [] (.ret (bool true)) []) (fc : CallC P G 11 [op c] [] (.ret (bool false)) []) (h : True) : CallC P G 7 [op a, op b, op c] [] (AOut.ret (Am.bool true)) [] := by
  have _ := h
  exact callC_of [kc [] (@hs ), kf (Eq.refl false), kc [] (@fa ), kf (Eq.refl false), kc [] (@fb ), kf (Eq.refl false), kc [] (@fc ), kt (Eq.refl true), kt (Eq.refl true), kt (Eq.refl true), kt (Eq.refl true)] (by kernel_rfl)


theorem ord_ca (a b c : OP) (hs : CallC P G 10 [] [] (.ret (bool true)) []) (fa : CallC P G 11 [op a] [] (.ret (bool true)) []) (fb : CallC P G 11 [op b] [] (.ret (bool true)) []) (fc : CallC P G 11 [op c] [] (.ret (bool true)) []) (ca : CallC P G 12 [op a] [] (.ret (int 170)) []) (h : True) : CallC P G 7 [op a, op b, op c] [] (AOut.ret (Am.bool true)) [] := by
  have _ := h
  exact callC_of [kc [] (@hs ), kf (Eq.refl false), kc [] (@fa ), kf (Eq.refl false), kc [] (@fb ), kf (Eq.refl false), kc [] (@fc ), kf (Eq.refl false), kc [] (@ca ), kt (Eq.refl true), kt (Eq.refl true), kt (Eq.refl true)] (by kernel_rfl)


theorem ord_cb (a b c : OP) (hs : CallC P G 10 [] [] (.ret (bool true)) []) (fa : CallC P G 11 [op a] [] (.ret (bool true)) []) (fb : CallC P G 11 [op b] [] (.ret (bool true)) []) (fc : CallC P G 11 [op c] [] (.ret (bool true)) []) (ca : CallC P G 12 [op a] [] (.ret (int 0)) []) (cb : CallC P G 12 [op b] [] (.ret (int 170)) []) (h : True) : CallC P G 7 [op a, op b, op c] [] (AOut.ret (Am.bool true)) [] := by
  have _ := h
  exact callC_of [kc [] (@hs ), kf (Eq.refl false), kc [] (@fa ), kf (Eq.refl false), kc [] (@fb ), kf (Eq.refl false), kc [] (@fc ), kf (Eq.refl false), kc [] (@ca ), kf (Eq.refl false), kc [] (@cb ), kt (Eq.refl true), kt (Eq.refl true)] (by kernel_rfl)


theorem ord_cc (a b c : OP) (hs : CallC P G 10 [] [] (.ret (bool true)) []) (fa : CallC P G 11 [op a] [] (.ret (bool true)) []) (fb : CallC P G 11 [op b] [] (.ret (bool true)) []) (fc : CallC P G 11 [op c] [] (.ret (bool true)) []) (ca : CallC P G 12 [op a] [] (.ret (int 0)) []) (cb : CallC P G 12 [op b] [] (.ret (int 0)) []) (cc : CallC P G 12 [op c] [] (.ret (int 170)) []) (h : True) : CallC P G 7 [op a, op b, op c] [] (AOut.ret (Am.bool true)) [] := by
  have _ := h
  exact callC_of [kc [] (@hs ), kf (Eq.refl false), kc [] (@fa ), kf (Eq.refl false), kc [] (@fb ), kf (Eq.refl false), kc [] (@fc ), kf (Eq.refl false), kc [] (@ca ), kf (Eq.refl false), kc [] (@cb ), kf (Eq.refl false), kc [] (@cc ), kt (Eq.refl true)] (by kernel_rfl)


theorem ord_lt (a b c : OP) (hs : CallC P G 10 [] [] (.ret (bool true)) []) (fa : CallC P G 11 [op a] [] (.ret (bool true)) []) (fb : CallC P G 11 [op b] [] (.ret (bool true)) []) (fc : CallC P G 11 [op c] [] (.ret (bool true)) []) (x x' y z : Int) (s : Bool) (ca : CallC P G 12 [op a] [] (.ret (int 0)) []) (cb : CallC P G 12 [op b] [] (.ret (int 0)) []) (cc : CallC P G 12 [op c] [] (.ret (int 0)) []) (m1 : CallC P G 14 [op a, op b] [] (.ret (int x)) []) (m2 : CallC P G 14 [op b, op c] [] (.ret (int y)) []) (m3 : CallC P G 14 [op a, op c] [] (.ret (int z)) []) (m4 : CallC P G 14 [op b, op a] [] (.ret (int x')) []) (ms : CallC P G 17 [op a, op b] [] (.ret (bool s)) []) (x1 : x = -1) (x2 : x' = 1) (x3 : s = false) (x4 : y ≤ 0 → z ≤ 0) (h : (((((x == 0) == s) = true) → (((OP.tm a < OP.tm b) → (((y ≤ (0 : Int)) → True) ∧ ((¬y ≤ (0 : Int)) → True))) ∧ ((¬OP.tm a < OP.tm b) → (((y ≤ (0 : Int)) → True) ∧ ((¬y ≤ (0 : Int)) → True))))) ∧ ((((x == 0) == s) = false) → (false) = (true)))) : CallC P G 7 [op a, op b, op c] [] (AOut.ret (Am.bool true)) [] := by
  have hz0 := (@hs )
  have hz1 := (@fa )
  have hz2 := (@fb )
  have hz3 := (@fc )
  have hz4 := (@ca )
  have hz5 := (@cb )
  have hz6 := (@cc )
  have hz7 := (@m1 )
  have hz8 := (@m2 )
  have hz9 := (@m3 )
  have hz10 : decide (x < (-1 : Int)) = false := (decide_eq_false (by omega))
  have hz11 : decide (x > (1 : Int)) = false := (decide_eq_false (by omega))
  have hz12 := (@m4 )
  have hz13 : Am.Sub (int (IntKind.wrap IntKind.i64 (0 - x'))) (int (0 - x')) := (Sub.of_wrap (by omega) (by omega) rfl)
  have hz14 : (x != 0 - x') = false := (congrArg Bool.not (decide_eq_true (by omega)))
  have hz15 := (@ms )
  rcases Bool.eq_false_or_eq_true (((x == 0) == s)) with c4 | c4
  · have h := h.1 c4
    have hz16 : (!(x == 0) == s) = false := (congrArg Bool.not (c4))
    by_cases c5 : (OP.tm a < OP.tm b)
    · have h := h.1 c5
      have hz17 : (x != -1) = false := (congrArg Bool.not (decide_eq_true (by omega)))
      have hz18 : decide (x ≤ (0 : Int)) = true := (decide_eq_true (by omega))
      by_cases c8 : (y ≤ (0 : Int))
      · have h := h.1 c8
        have _ := h
        exact callC_of [kc [] hz0, kf (Eq.refl false), kc [] hz1, kf (Eq.refl false), kc [] hz2, kf (Eq.refl false), kc [] hz3, kf (Eq.refl false), kc [] hz4, kf (Eq.refl false), kc [] hz5, kf (Eq.refl false), kc [] hz6, kf (Eq.refl false), kc [] hz7, kc [] hz8, kc [] hz9, kf hz10, kf hz11, kc [] hz12, kv 60 hz13, kf hz14, kc [] hz15, kf hz16, kt (decide_eq_true c5), kf hz17, kt hz18, kt (decide_eq_true c8), kt (show (!decide (z > (0 : Int))) = true from (congrArg Bool.not (decide_eq_false (by omega)))), kf (show decide (x ≥ (0 : Int)) = false from (decide_eq_false (by omega))), kf (Eq.refl false)] (by kernel_rfl)
      · have h := h.2 c8
        have _ := h
        exact callC_of [kc [] hz0, kf (Eq.refl false), kc [] hz1, kf (Eq.refl false), kc [] hz2, kf (Eq.refl false), kc [] hz3, kf (Eq.refl false), kc [] hz4, kf (Eq.refl false), kc [] hz5, kf (Eq.refl false), kc [] hz6, kf (Eq.refl false), kc [] hz7, kc [] hz8, kc [] hz9, kf hz10, kf hz11, kc [] hz12, kv 60 hz13, kf hz14, kc [] hz15, kf hz16, kt (decide_eq_true c5), kf hz17, kt hz18, kf (decide_eq_false c8), kt (Eq.refl true), kf (show decide (x ≥ (0 : Int)) = false from (decide_eq_false (by omega))), kf (Eq.refl false)] (by kernel_rfl)
    · have h := h.2 c5
      have hz18 : decide (x ≤ (0 : Int)) = true := (decide_eq_true (by omega))
      by_cases c13 : (y ≤ (0 : Int))
      · have h := h.1 c13
        have _ := h
        exact callC_of [kc [] hz0, kf (Eq.refl false), kc [] hz1, kf (Eq.refl false), kc [] hz2, kf (Eq.refl false), kc [] hz3, kf (Eq.refl false), kc [] hz4, kf (Eq.refl false), kc [] hz5, kf (Eq.refl false), kc [] hz6, kf (Eq.refl false), kc [] hz7, kc [] hz8, kc [] hz9, kf hz10, kf hz11, kc [] hz12, kv 60 hz13, kf hz14, kc [] hz15, kf hz16, kf (decide_eq_false c5), kf (Eq.refl false), kt hz18, kt (decide_eq_true c13), kt (show (!decide (z > (0 : Int))) = true from (congrArg Bool.not (decide_eq_false (by omega)))), kf (show decide (x ≥ (0 : Int)) = false from (decide_eq_false (by omega))), kf (Eq.refl false)] (by kernel_rfl)
      · have h := h.2 c13
        have _ := h
        exact callC_of [kc [] hz0, kf (Eq.refl false), kc [] hz1, kf (Eq.refl false), kc [] hz2, kf (Eq.refl false), kc [] hz3, kf (Eq.refl false), kc [] hz4, kf (Eq.refl false), kc [] hz5, kf (Eq.refl false), kc [] hz6, kf (Eq.refl false), kc [] hz7, kc [] hz8, kc [] hz9, kf hz10, kf hz11, kc [] hz12, kv 60 hz13, kf hz14, kc [] hz15, kf hz16, kf (decide_eq_false c5), kf (Eq.refl false), kt hz18, kf (decide_eq_false c13), kt (Eq.refl true), kf (show decide (x ≥ (0 : Int)) = false from (decide_eq_false (by omega))), kf (Eq.refl false)] (by kernel_rfl)
  · have h := h.2 c4
    have e1 := h
    exact callC_out (Sub.bool_eq e1) [kc [] hz0, kf (Eq.refl false), kc [] hz1, kf (Eq.refl false), kc [] hz2, kf (Eq.refl false), kc [] hz3, kf (Eq.refl false), kc [] hz4, kf (Eq.refl false), kc [] hz5, kf (Eq.refl false), kc [] hz6, kf (Eq.refl false), kc [] hz7, kc [] hz8, kc [] hz9, kf hz10, kf hz11, kc [] hz12, kv 60 hz13, kf hz14, kc [] hz15, kt (show (!(x == 0) == s) = true from (congrArg Bool.not (c4))), kt (Eq.refl true)] (by kernel_rfl)


theorem ord_eq (a b c : OP) (hs : CallC P G 10 [] [] (.ret (bool true)) []) (fa : CallC P G 11 [op a] [] (.ret (bool true)) []) (fb : CallC P G 11 [op b] [] (.ret (bool true)) []) (fc : CallC P G 11 [op c] [] (.ret (bool true)) []) (x x' y z : Int) (s : Bool) (ca : CallC P G 12 [op a] [] (.ret (int 0)) []) (cb : CallC P G 12 [op b] [] (.ret (int 0)) []) (cc : CallC P G 12 [op c] [] (.ret (int 0)) []) (m1 : CallC P G 14 [op a, op b] [] (.ret (int x)) []) (m2 : CallC P G 14 [op b, op c] [] (.ret (int y)) []) (m3 : CallC P G 14 [op a, op c] [] (.ret (int z)) []) (m4 : CallC P G 14 [op b, op a] [] (.ret (int x')) []) (ms : CallC P G 17 [op a, op b] [] (.ret (bool s)) []) (x1 : x = 0) (x2 : x' = 0) (x3 : s = true) (x4 : b.tm ≤ a.tm) (x5 : y ≤ 0 → z ≤ 0) (x6 : 0 ≤ y → 0 ≤ z) (h : (((((x == 0) == s) = true) → (((y ≤ (0 : Int)) → (((y ≥ (0 : Int)) → (!decide (z < (0 : Int))) = (true)) ∧ ((¬y ≥ (0 : Int)) → True))) ∧ ((¬y ≤ (0 : Int)) → (!decide (z < (0 : Int))) = (true)))) ∧ ((((x == 0) == s) = false) → (false) = (true)))) : CallC P G 7 [op a, op b, op c] [] (AOut.ret (Am.bool true)) [] := by
  have hz0 := (@hs )
  have hz1 := (@fa )
  have hz2 := (@fb )
  have hz3 := (@fc )
  have hz4 := (@ca )
  have hz5 := (@cb )
  have hz6 := (@cc )
  have hz7 := (@m1 )
  have hz8 := (@m2 )
  have hz9 := (@m3 )
  have hz10 : decide (x < (-1 : Int)) = false := (decide_eq_false (by omega))
  have hz11 : decide (x > (1 : Int)) = false := (decide_eq_false (by omega))
  have hz12 := (@m4 )
  have hz13 : Am.Sub (int (IntKind.wrap IntKind.i64 (0 - x'))) (int (0 - x')) := (Sub.of_wrap (by omega) (by omega) rfl)
  have hz14 : (x != 0 - x') = false := (congrArg Bool.not (decide_eq_true (by omega)))
  have hz15 := (@ms )
  rcases Bool.eq_false_or_eq_true (((x == 0) == s)) with c4 | c4
  · have h := h.1 c4
    have hz16 : (!(x == 0) == s) = false := (congrArg Bool.not (c4))
    have hz17 : decide (OP.tm a < OP.tm b) = false := (decide_eq_false (by omega))
    have hz18 : decide (x ≤ (0 : Int)) = true := (decide_eq_true (by omega))
    by_cases c7 : (y ≤ (0 : Int))
    · have h := h.1 c7
      have hz19 : (!decide (z > (0 : Int))) = true := (congrArg Bool.not (decide_eq_false (by omega)))
      have hz20 : decide (x ≥ (0 : Int)) = true := (decide_eq_true (by omega))
      by_cases c10 : (y ≥ (0 : Int))
      · have h := h.1 c10
        have e1 := h
        exact callC_out (Sub.bool_eq e1) [kc [] hz0, kf (Eq.refl false), kc [] hz1, kf (Eq.refl false), kc [] hz2, kf (Eq.refl false), kc [] hz3, kf (Eq.refl false), kc [] hz4, kf (Eq.refl false), kc [] hz5, kf (Eq.refl false), kc [] hz6, kf (Eq.refl false), kc [] hz7, kc [] hz8, kc [] hz9, kf hz10, kf hz11, kc [] hz12, kv 60 hz13, kf hz14, kc [] hz15, kf hz16, kf hz17, kf (Eq.refl false), kt hz18, kt (decide_eq_true c7), kt hz19, kt hz20, kt (decide_eq_true c10)] (by kernel_rfl)
      · have h := h.2 c10
        have _ := h
        exact callC_of [kc [] hz0, kf (Eq.refl false), kc [] hz1, kf (Eq.refl false), kc [] hz2, kf (Eq.refl false), kc [] hz3, kf (Eq.refl false), kc [] hz4, kf (Eq.refl false), kc [] hz5, kf (Eq.refl false), kc [] hz6, kf (Eq.refl false), kc [] hz7, kc [] hz8, kc [] hz9, kf hz10, kf hz11, kc [] hz12, kv 60 hz13, kf hz14, kc [] hz15, kf hz16, kf hz17, kf (Eq.refl false), kt hz18, kt (decide_eq_true c7), kt hz19, kt hz20, kf (decide_eq_false c10)] (by kernel_rfl)
    · have h := h.2 c7
      have e1 := h
      exact callC_out (Sub.bool_eq e1) [kc [] hz0, kf (Eq.refl false), kc [] hz1, kf (Eq.refl false), kc [] hz2, kf (Eq.refl false), kc [] hz3, kf (Eq.refl false), kc [] hz4, kf (Eq.refl false), kc [] hz5, kf (Eq.refl false), kc [] hz6, kf (Eq.refl false), kc [] hz7, kc [] hz8, kc [] hz9, kf hz10, kf hz11, kc [] hz12, kv 60 hz13, kf hz14, kc [] hz15, kf hz16, kf hz17, kf (Eq.refl false), kt hz18, kf (decide_eq_false c7), kt (Eq.refl true), kt (show decide (x ≥ (0 : Int)) = true from (decide_eq_true (by omega))), kt (show decide (y ≥ (0 : Int)) = true from (decide_eq_true (by omega)))] (by kernel_rfl)
  · have h := h.2 c4
    have e1 := h
    exact callC_out (Sub.bool_eq e1) [kc [] hz0, kf (Eq.refl false), kc [] hz1, kf (Eq.refl false), kc [] hz2, kf (Eq.refl false), kc [] hz3, kf (Eq.refl false), kc [] hz4, kf (Eq.refl false), kc [] hz5, kf (Eq.refl false), kc [] hz6, kf (Eq.refl false), kc [] hz7, kc [] hz8, kc [] hz9, kf hz10, kf hz11, kc [] hz12, kv 60 hz13, kf hz14, kc [] hz15, kt (show (!(x == 0) == s) = true from (congrArg Bool.not (c4))), kt (Eq.refl true)] (by kernel_rfl)


theorem ord_gt (a b c : OP) (hs : CallC P G 10 [] [] (.ret (bool true)) []) (fa : CallC P G 11 [op a] [] (.ret (bool true)) []) (fb : CallC P G 11 [op b] [] (.ret (bool true)) []) (fc : CallC P G 11 [op c] [] (.ret (bool true)) []) (x x' y z : Int) (s : Bool) (ca : CallC P G 12 [op a] [] (.ret (int 0)) []) (cb : CallC P G 12 [op b] [] (.ret (int 0)) []) (cc : CallC P G 12 [op c] [] (.ret (int 0)) []) (m1 : CallC P G 14 [op a, op b] [] (.ret (int x)) []) (m2 : CallC P G 14 [op b, op c] [] (.ret (int y)) []) (m3 : CallC P G 14 [op a, op c] [] (.ret (int z)) []) (m4 : CallC P G 14 [op b, op a] [] (.ret (int x')) []) (ms : CallC P G 17 [op a, op b] [] (.ret (bool s)) []) (x1 : x = 1) (x2 : x' = -1) (x3 : s = false) (x4 : b.tm ≤ a.tm) (x6 : 0 ≤ y → 0 ≤ z) (h : (((((x == 0) == s) = true) → (((y ≥ (0 : Int)) → (!decide (z < (0 : Int))) = (true)) ∧ ((¬y ≥ (0 : Int)) → True))) ∧ ((((x == 0) == s) = false) → (false) = (true)))) : CallC P G 7 [op a, op b, op c] [] (AOut.ret (Am.bool true)) [] := by
  have hz0 := (@hs )
  have hz1 := (@fa )
  have hz2 := (@fb )
  have hz3 := (@fc )
  have hz4 := (@ca )
  have hz5 := (@cb )
  have hz6 := (@cc )
  have hz7 := (@m1 )
  have hz8 := (@m2 )
  have hz9 := (@m3 )
  have hz10 : decide (x < (-1 : Int)) = false := (decide_eq_false (by omega))
  have hz11 : decide (x > (1 : Int)) = false := (decide_eq_false (by omega))
  have hz12 := (@m4 )
  have hz13 : Am.Sub (int (IntKind.wrap IntKind.i64 (0 - x'))) (int (0 - x')) := (Sub.of_wrap (by omega) (by omega) rfl)
  have hz14 : (x != 0 - x') = false := (congrArg Bool.not (decide_eq_true (by omega)))
  have hz15 := (@ms )
  rcases Bool.eq_false_or_eq_true (((x == 0) == s)) with c4 | c4
  · have h := h.1 c4
    have hz16 : (!(x == 0) == s) = false := (congrArg Bool.not (c4))
    have hz17 : decide (OP.tm a < OP.tm b) = false := (decide_eq_false (by omega))
    have hz18 : decide (x ≤ (0 : Int)) = false := (decide_eq_false (by omega))
    have hz19 : decide (x ≥ (0 : Int)) = true := (decide_eq_true (by omega))
    by_cases c8 : (y ≥ (0 : Int))
    · have h := h.1 c8
      have e1 := h
      exact callC_out (Sub.bool_eq e1) [kc [] hz0, kf (Eq.refl false), kc [] hz1, kf (Eq.refl false), kc [] hz2, kf (Eq.refl false), kc [] hz3, kf (Eq.refl false), kc [] hz4, kf (Eq.refl false), kc [] hz5, kf (Eq.refl false), kc [] hz6, kf (Eq.refl false), kc [] hz7, kc [] hz8, kc [] hz9, kf hz10, kf hz11, kc [] hz12, kv 60 hz13, kf hz14, kc [] hz15, kf hz16, kf hz17, kf (Eq.refl false), kf hz18, kf (Eq.refl false), kt (Eq.refl true), kt hz19, kt (decide_eq_true c8)] (by kernel_rfl)
    · have h := h.2 c8
      have _ := h
      exact callC_of [kc [] hz0, kf (Eq.refl false), kc [] hz1, kf (Eq.refl false), kc [] hz2, kf (Eq.refl false), kc [] hz3, kf (Eq.refl false), kc [] hz4, kf (Eq.refl false), kc [] hz5, kf (Eq.refl false), kc [] hz6, kf (Eq.refl false), kc [] hz7, kc [] hz8, kc [] hz9, kf hz10, kf hz11, kc [] hz12, kv 60 hz13, kf hz14, kc [] hz15, kf hz16, kf hz17, kf (Eq.refl false), kf hz18, kf (Eq.refl false), kt (Eq.refl true), kt hz19, kf (decide_eq_false c8)] (by kernel_rfl)
  · have h := h.2 c4
    have e1 := h
    exact callC_out (Sub.bool_eq e1) [kc [] hz0, kf (Eq.refl false), kc [] hz1, kf (Eq.refl false), kc [] hz2, kf (Eq.refl false), kc [] hz3, kf (Eq.refl false), kc [] hz4, kf (Eq.refl false), kc [] hz5, kf (Eq.refl false), kc [] hz6, kf (Eq.refl false), kc [] hz7, kc [] hz8, kc [] hz9, kf hz10, kf hz11, kc [] hz12, kv 60 hz13, kf hz14, kc [] hz15, kt (show (!(x == 0) == s) = true from (congrArg Bool.not (c4))), kt (Eq.refl true)] (by kernel_rfl)


theorem con_x (o : OP) (hs : CallC P G 10 [] [] (.ret (bool true)) []) (ha : CallC P G 11 [op o] [] (.ret (bool true)) []) (h1 : CallC P G 18 [op o] [] (.ret (.tup [byt [], int 170])) []) (h : True) : CallC P G 6 [op o] [] (AOut.ret (Am.bool true)) [] := by
  have _ := h
  exact callC_of [kc [] (@hs ), kf (Eq.refl false), kc [] (@ha ), kf (Eq.refl false), kc [] (@h1 ), kt (Eq.refl true), kt (Eq.refl true)] (by kernel_rfl)


end Go.Ops

/- OPS, 27: OpsEncodeSpec's loop. -/
namespace Go.Ops
set_option maxRecDepth 100000
set_option linter.unusedSimpArgs false
set_option linter.unusedVariables false
open Go Go.Am Go.Proofs Go.Seat Go.Vec Go.Cdc

def ecSt (o : OP) (xs : List (List AV)) (k : Nat) : St := { env := slots 73 [(4, bool false), (47, .sl 1 true xs), (48, int 2), (49, int k)], H := [.box (opc o)] }

theorem ec_end (o : OP) (xs : List (List AV)) (k : Nat) (hk : 2 ≤ k) (h : True) : RunL P G none 0 (loopAt P 4 0) (ecSt o xs k) (AEx.exit 0) (St.mk (slots 73 [(4, Am.bool false)]) [AObj.box (opc o)] []) := by
  have _ := h
  exact loop_exit [kf (show decide ((↑k : Int) < (2 : Int)) = false from (decide_eq_false (by omega)))] (others 73 [4]) 1 (by kernel_rfl)


theorem ec_step (o : OP) (xs : List (List AV)) (c : List UInt8) (k : Nat) (hk : k < 2) (hx : xs[k]? = some [byt c]) (p : OP) (g : Int) (h1 : CallC P G 20 [byt c] [] (.ret (.tup [op p, int g])) []) (h2 : CallC P G 21 [byt c] [] (.ret (.tup [op p, int g])) []) (h3 : CallC P G 17 [op p, op p] [] (.ret (bool true)) []) (ex : AEx) (s' : St) (h : RunL P G none 0 (loopAt P 4 0) (St.mk (slots 73 [(4, Am.bool false), (47, AV.sl 1 true xs), (48, int 2), (49, int (↑(k + 1) : Int))]) [AObj.box [int (OP.dv o), int (OP.sq o), int (OP.tm o), AV.sl 2 false (encs (OP.cx o)), int (OP.pk o), str (OP.pn o), int (OP.kd o), int (OP.f1 o), int (OP.f2 o), int (OP.f3 o), int (OP.t1 o), int (OP.t2 o), int (OP.t3 o), str (OP.ky o), str (OP.vl o), int (OP.n o), Am.bool (OP.on o)]] []) ex s') : RunL P G none 0 (loopAt P 4 0) (ecSt o xs k) ex s' := by
  exact loop_next [kt (show decide ((↑k : Int) < (2 : Int)) = true from (decide_eq_true (by omega))), ko (Orc.elem [byt c]), kp (show (0 : Int) ≤ (↑k : Int) ∧ xs[Int.toNat (↑k : Int)]? = some [byt c] from (el_nat' hx)), kc [] (@h1 ), kc [] (@h2 ), kc [] (@h3 ), kf (Eq.refl false), kf (show (g != g) = false from (congrArg Bool.not (decide_eq_true (by omega)))), kv 72 (show Am.Sub (int (IntKind.wrap IntKind.i64 ((↑k : Int) + 1))) (int (↑(k + 1) : Int)) from (Sub.of_wrap (by omega) (by omega) (by omega)))] (others 73 [4, 47, 48, 49]) 1 h (by kernel_rfl)


theorem enc_t (o : OP) (b x : List UInt8) (e : Int) (hb : b.length ≤ 2000) (hs : CallC P G 10 [] [] (.ret (bool true)) []) (ha : CallC P G 11 [op o] [] (.ret (bool true)) []) (h1 : CallC P G 18 [op o] [] (.ret (.tup [byt x, int e])) []) (h2 : CallC P G 19 [op o] [] (.ret (.tup [byt x, int e])) []) (hx : (ByteArray.toList ⟨x.toArray⟩ == ByteArray.toList ⟨x.toArray⟩) = true) (hl : RunL P G none 0 (loopAt P 4 0) (ecSt o [[byt b], [byt x]] 0) (.exit 0) { env := slots 73 [(4, bool false)], H := [.box (opc o)] }) (h : True) : CallC P G 4 [op o, byt b] [] (AOut.ret (Am.bool true)) [] := by
  have hz6 : bys x = List.map (fun (c : UInt8) => [AV.lit (Value.int IntKind.u8 (↑(UInt8.toNat c) : Int))]) (Array.toList (Array.mk x)) := (rfl)
  have _ := h
  exact callC_of [kc [] (@hs ), kf (Eq.refl false), kc [] (@ha ), kf (Eq.refl false), kv 22 (show Am.Sub (int (↑(List.length (bys b)) : Int)) (int (↑(List.length b) : Int)) from (Sub.of_eq (by simp only [Go.Cdc.bys_length]))), kf (show decide ((↑(List.length b) : Int) > (2000 : Int)) = false from (decide_eq_false (by omega))), kc [] (@h1 ), kc [] (@h2 ), ko (Orc.bytes (ByteArray.mk (List.toArray x))), ko (Orc.bytes (ByteArray.mk (List.toArray x))), kp hz6, kp hz6, kf (show (!ByteArray.toList (ByteArray.mk (List.toArray x)) == ByteArray.toList (ByteArray.mk (List.toArray x))) = false from (congrArg Bool.not (hx))), kf (show (e != e) = false from (congrArg Bool.not (decide_eq_true (by omega)))), kl [0, 1, 2, 3, 5, 6, 7, 8, 9, 10, 11, 12, 13, 14, 15, 16, 17, 18, 19, 20, 21, 22, 23, 24, 25, 26, 27, 28, 29, 30, 31, 32, 33, 34, 35, 36, 37, 38, 39, 40, 41, 42, 43, 44, 45, 46, 50, 51, 52, 53, 54, 55, 56, 57, 58, 59, 60, 61, 62, 63, 64, 65, 66, 67, 68, 69, 70, 71, 72] 1 (@hl )] (by kernel_rfl)


end Go.Ops

/- OPS, 28: OpsEncodeSpec, OpsBack. -/
namespace Go.Ops
set_option maxRecDepth 100000
set_option linter.unusedSimpArgs false
set_option linter.unusedVariables false
open Go Go.Am Go.Proofs Go.Seat Go.Vec Go.Cdc

theorem opV_len2 (o : OP) : (encB (opV o)).length ≤ 33 * o.cx.length + o.ky.size + o.vl.size + o.pn.size + 1000 := by
  have h0 := len_cvL [cvI o.dv, cvI o.sq, cvI o.tm, ctxV o, cvL [cvI o.pk, cvT o.pn], cvI o.kd, cvL [cvI o.f1, cvI o.f2, cvI o.f3], cvL [cvI o.t1, cvI o.t2, cvI o.t3], cvT o.ky, cvT o.vl, cvI o.n, cvI (if o.on = true then 1 else 0)]
  have a1 := len_cvI o.dv; have a2 := len_cvI o.sq; have a3 := len_cvI o.tm; have a4 := len_cvI o.pk; have a5 := len_cvT o.pn; have a6 := len_cvI o.kd
  have b1 := len_cvI o.f1; have b2 := len_cvI o.f2; have b3 := len_cvI o.f3; have b4 := len_cvI o.t1; have b5 := len_cvI o.t2; have b6 := len_cvI o.t3
  have c1 := len_cvT o.ky; have c2 := len_cvT o.vl; have c3 := len_cvI o.n; have c4 := len_cvI (if o.on = true then 1 else 0)
  have d1 := len_cvL (o.cx.map cvD); have d2 := len_cvD o.cx
  have d3 := len_cvL [cvI o.pk, cvT o.pn]; have d4 := len_cvL [cvI o.f1, cvI o.f2, cvI o.f3]; have d5 := len_cvL [cvI o.t1, cvI o.t2, cvI o.t3]
  have e : encB (opV o) = encB (cvL [cvI o.dv, cvI o.sq, cvI o.tm, ctxV o, cvL [cvI o.pk, cvT o.pn], cvI o.kd, cvL [cvI o.f1, cvI o.f2, cvI o.f3], cvL [cvI o.t1, cvI o.t2, cvI o.t3], cvT o.ky, cvT o.vl, cvI o.n, cvI (if o.on = true then 1 else 0)]) := rfl
  rw [e]
  have e2 : encB (ctxV o) = encB (cvL (o.cx.map cvD)) := rfl
  simp only [encBL, List.length_append, List.length_nil] at h0 d3 d4 d5
  rw [e2] at h0
  omega

theorem few_len {o : OP} (h : fewO o = true) : (encB (opV o)).length ≤ 100000 := by
  have := opV_len2 o
  simp only [fewO, Bool.and_eq_true, decide_eq_true_eq] at h
  omega
theorem encO_len {o : OP} (h : fewO o = true) : (encO o).length ≤ 100000 := by
  unfold encO
  split
  · exact few_len h
  · simp
theorem enc_loop (o : OP) (b x : List UInt8) (hb : b.length ≤ 200000) (hx : x.length ≤ 200000) : RunL P G none 0 (loopAt P 4 0) (ecSt o [[byt b], [byt x]] 0) (.exit 0) { env := slots 73 [(4, bool false)], H := [.box (opc o)] } := by
  have one : ∀ (c : List UInt8) (k : Nat) (ex : AEx) (s' : St), k < 2 → [[byt b], [byt x]][k]? = some [byt c] → c.length ≤ 200000 → RunL P G none 0 (loopAt P 4 0) (ecSt o [[byt b], [byt x]] (k + 1)) ex s' → RunL P G none 0 (loopAt P 4 0) (ecSt o [[byt b], [byt x]] k) ex s' := fun c k ex s' hk hg hc h => by
    have hz : (decOp c).1.cx.length ≤ 1000000000 := by
      unfold decOp
      split
      · rename_i h0
        have hg := gd_dec (by omega) h0
        split
        · have := (decO_few hg).cx; simp only; omega
        · simp [zop]
      · simp [zop]
    have hs := rsame_c (decOp c).1 (decOp c).1 hz
    rw [decide_eq_true rfl] at hs
    exact ec_step o _ c k hk hg _ _ (dec_cc c hc) (rdec_cc c hc) hs ex s' h
  exact one b 0 _ _ (by decide) rfl hb (one x 1 _ _ (by decide) rfl hx (ec_end o _ 2 (by decide) trivial))

/-- OpsEncodeSpec. -/
theorem spec_enc (o : OP) (b : List UInt8) (ko : Okp o ∧ Sz o) (kb : b.length ≤ 9223372036854775807) : CallC P G 4 [op o, byt b] [] (.ret (bool true)) [] := by
  have fo := few_c o ko.2
  cases ho : fewO o with
  | false => rw [ho] at fo; exact enc_f o b sane_c fo trivial
  | true =>
    rw [ho] at fo
    by_cases hb : b.length ≤ 2000
    · have q := fewO_few ho
      have l := encO_len ho
      exact enc_t o b (encO o) (chkOE o) hb sane_c fo (enc_c o (by decide) ko.1 q) (renco_c o (by decide) ko.1 q) (by simp) (enc_loop o b _ (by omega) (by omega)) trivial
    · exact enc_l o b kb (by omega) sane_c fo trivial

theorem decOp_cases (b : List UInt8) (hb : b.length ≤ 200000) : (∃ z, decOp b = (z, 0) ∧ chkOE z = 0 ∧ b = encB (opV z) ∧ Okp z ∧ Few b.length z) ∨ ∃ g, decOp b = (zop, g) ∧ g ≠ 0 := by
  unfold decOp
  split
  · rename_i h0
    have hg := gd_dec (by omega) h0
    split
    · rename_i h
      exact .inl ⟨_, rfl, h.1, h.2, decO_okp hg, decO_few hg⟩
    · exact .inr ⟨170, rfl, by decide⟩
  · rename_i h0
    exact .inr ⟨_, rfl, h0⟩

/-- OpsBack. -/
theorem spec_back (o : OP) (b : List UInt8) (ko : Okp o ∧ Sz o) (kb : b.length ≤ 9223372036854775807) : CallC P G 5 [op o, byt b] [] (.ret (bool true)) [] := by
  have fo := few_c o ko.2
  cases ho : fewO o with
  | false => rw [ho] at fo; exact back_f o b sane_c fo trivial
  | true =>
    rw [ho] at fo
    by_cases hb : b.length ≤ 2000
    · have q := fewO_few ho
      have hlo := fewO_cx ho
      have he := enc_c o (by decide) ko.1 q
      have hc := check_c o (ko.1.okn (by decide) q)
      have hs := rsame_c o o (by omega)
      have hz := rsame_c zop zop (by simp [zop])
      have hd := dec_cc b (by omega)
      rw [decide_eq_true rfl] at hs hz
      rcases chk01 o with h0 | h0
      · rw [encO, if_pos h0, h0] at he
        rw [h0] at hc
        have hdo := dec_cc (encB (opV o)) (by have := few_len ho; omega)
        rw [dec_of_enc o (by decide) ko.1 q h0] at hdo
        rcases decOp_cases b (by omega) with ⟨z, hz1, hz2, hz3, hz4, hz5⟩ | ⟨g, hg, hg0⟩
        · rw [hz1] at hd
          have hez := enc_c z (by omega) hz4 hz5
          rw [encO, if_pos hz2, hz2, ← hz3] at hez
          exact back_00 o b hb sane_c fo _ he hc hdo hs z hd hez (by simp) (by simp)
        · rw [hg] at hd
          exact back_01 o b hb sane_c fo _ he hc hdo hs g hg0 hd hz trivial
      · rw [encO, if_neg (by rw [h0]; decide), h0] at he
        rw [h0] at hc
        rcases decOp_cases b (by omega) with ⟨z, hz1, hz2, hz3, hz4, hz5⟩ | ⟨g, hg, hg0⟩
        · rw [hz1] at hd
          have hez := enc_c z (by omega) hz4 hz5
          rw [encO, if_pos hz2, hz2, ← hz3] at hez
          exact back_10 o b hb sane_c fo he hc z hd hez (by simp) (by simp)
        · rw [hg] at hd
          exact back_11 o b hb sane_c fo he hc g hg0 hd hz trivial
    · exact back_l o b kb (by omega) sane_c fo trivial

end Go.Ops
