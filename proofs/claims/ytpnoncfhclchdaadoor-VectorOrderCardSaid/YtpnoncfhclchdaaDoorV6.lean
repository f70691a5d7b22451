/- VECTOR, 6: what the rounds over the pairs come to; the program's Join and Meet. -/
import Derived.KernelRfl
import Derived.Test.YtpnoncfhclchdaaDoorV5
namespace Go.Vec
open Go Go.Am Go.Proofs

/-- The pairs of two lists, merged; n: at least so many as both have. -/
def prN : Nat → List D → List D → List (Int × Int × Int)
  | 0, _, _ => []
  | _ + 1, [], [] => []
  | n + 1, x :: a, [] => (x.1, x.2, 0) :: prN n a []
  | n + 1, [], y :: b => (y.1, 0, y.2) :: prN n [] b
  | n + 1, x :: a, y :: b => if x.1 < y.1 then (x.1, x.2, 0) :: prN n a (y :: b) else if y.1 < x.1 then (y.1, 0, y.2) :: prN n (x :: a) b else (x.1, x.2, y.2) :: prN n a b
theorem prN_len : ∀ (n : Nat) (a b : List D), (prN n a b).length ≤ n
  | 0, _, _ => Nat.le_refl _
  | _ + 1, [], [] => Nat.zero_le _
  | n + 1, x :: a, [] => by simp only [prN, List.length_cons]; have := prN_len n a []; omega
  | n + 1, [], y :: b => by simp only [prN, List.length_cons]; have := prN_len n [] b; omega
  | n + 1, x :: a, y :: b => by
    have h1 := prN_len n (x :: a) b
    have h2 := prN_len n a (y :: b)
    have h3 := prN_len n a b
    simp only [prN]
    split
    · simp only [List.length_cons]; omega
    · split <;> (simp only [List.length_cons]; omega)
def ruleF (tk : Int → Int → Int) (p : Int × Int × Int) : Option D := if tk p.2.1 p.2.2 > 0 then some (p.1, tk p.2.1 p.2.2) else none

/-- What one round does to what is left. -/
def prStep (A B : List D) (p : Int × Int × Int) (A' B' : List D) : Prop := A'.length + B'.length + 1 ≤ A.length + B.length ∧ A'.length ≤ A.length ∧ B'.length ≤ B.length ∧ ∀ n, prN (n + 1) A B = p :: prN n A' B'

theorem pr_arms (A B : List D) :
    (∀ x, A[0]? = some x → B.length = 0 → prStep A B (x.1, x.2, 0) (A.drop 1) B) ∧
    (∀ x y, A[0]? = some x → B[0]? = some y → x.1 < y.1 → prStep A B (x.1, x.2, 0) (A.drop 1) B) ∧
    (∀ x y, A[0]? = some x → B[0]? = some y → ¬ x.1 < y.1 → y.1 < x.1 → prStep A B (y.1, 0, y.2) A (B.drop 1)) ∧
    (∀ x y, A[0]? = some x → B[0]? = some y → ¬ x.1 < y.1 → ¬ y.1 < x.1 → prStep A B (x.1, x.2, y.2) (A.drop 1) (B.drop 1)) ∧
    (∀ y, A.length = 0 → B[0]? = some y → prStep A B (y.1, 0, y.2) A (B.drop 1)) := by
  have hd : ∀ {l : List D} {x}, l[0]? = some x → l = x :: l.drop 1 := fun {l x} h => by
    cases l with
    | nil => simp at h
    | cons y t => simp at h; simp [h]
  refine ⟨fun x hx hb => ?_, fun x y hx hy h1 => ?_, fun x y hx hy h1 h2 => ?_, fun x y hx hy h1 h2 => ?_, fun y ha hy => ?_⟩
  · have eb : B = [] := List.eq_nil_of_length_eq_zero hb
    subst eb
    have ea := hd hx
    generalize hA : A.drop 1 = A' at ea
    subst ea
    exact ⟨by simp, by simp, by simp, fun n => rfl⟩
  · have ea := hd hx
    generalize hA : A.drop 1 = A' at ea
    subst ea
    have eb := hd hy
    generalize hB : B.drop 1 = B' at eb
    subst eb
    exact ⟨by simp; omega, by simp, by simp, fun n => by simp only [prN]; rw [if_pos h1]⟩
  · have ea := hd hx
    generalize hA : A.drop 1 = A' at ea
    subst ea
    have eb := hd hy
    generalize hB : B.drop 1 = B' at eb ⊢
    subst eb
    exact ⟨by simp; omega, by simp, by simp, fun n => by simp only [prN]; rw [if_neg h1, if_pos h2]⟩
  · have ea := hd hx
    generalize hA : A.drop 1 = A' at ea ⊢
    subst ea
    have eb := hd hy
    generalize hB : B.drop 1 = B' at eb ⊢
    subst eb
    exact ⟨by simp; omega, by simp, by simp, fun n => by simp only [prN]; rw [if_neg h1, if_neg h2]⟩
  · have ea : A = [] := List.eq_nil_of_length_eq_zero ha
    subst ea
    have eb := hd hy
    generalize hB : B.drop 1 = B' at eb ⊢
    subst eb
    exact ⟨by simp, by simp, by simp, fun n => rfl⟩

noncomputable def plOut (f g : Nat) (v : List D) : St := { env := slots 91 [], H := q1 f [] [] g v }
noncomputable def plFin (f : Nat) (t : List D) : St := { env := slots 91 [], H := if t = [] then q0 f [] [] else q1 f [] [] (t.length - 1) t }

section
variable (f : Nat) (tk : Int → Int → Int)
  (hy0 : ∀ A B d x y, YieldC P G 0 [.agg [int d, int x, int y]] (q0 f A B ++ [.box [int d, int x, int y]]) true (if tk x y > 0 then q1 f A B 0 [(d, tk x y)] else q0 f A B ++ [.box [int d, int x, int y]]))
  (hy1 : ∀ A B v g d x y, v.length ≤ 3000000000 → YieldC P G 0 [.agg [int d, int x, int y]] (q1 f A B g v ++ [.box [int d, int x, int y]]) true (if tk x y > 0 then q1 f A B (g + 1) (v ++ [(d, tk x y)]) ++ [.box [int d, int x, int y]] else q1 f A B g v ++ [.box [int d, int x, int y]]))
 include hy1
theorem pl_loop1 : ∀ n A B g v, A.length + B.length ≤ n → A.length ≤ 1000000000 → B.length ≤ 1000000000 → v.length + n ≤ 3000000000 →
    RunL P G none 5 (loopAt P 37 0) (plSt1 f A B g v) (.exit 0) (plOut f (g + ((prN n A B).filterMap (ruleF tk)).length) (v ++ (prN n A B).filterMap (ruleF tk))) := by
  intro n
  induction n with
  | zero =>
    intro A B g v hn hA hB hv
    have ea : A = [] := List.eq_nil_of_length_eq_zero (by omega)
    have eb : B = [] := List.eq_nil_of_length_eq_zero (by omega)
    subst ea eb
    refine pl_w1 f tk [] [] g v (by omega) hy1 hA hB _ _ ⟨fun h => absurd h (by simp), fun _ => ⟨fun h => absurd h (by simp), fun _ => ⟨rfl, ?_⟩⟩⟩
    simp only [prN, List.filterMap_nil, List.append_nil, List.length_nil, Nat.add_zero]
    rfl
  | succ n ih =>
    intro A B g v hn hA hB hv
    obtain ⟨s1, s2, s3, s4, s5⟩ := pr_arms A B
    have fin : ∀ {p A' B'}, prStep A B p A' B' →
        (tk p.2.1 p.2.2 > 0 → RunL P G none 5 (loopAt P 37 0) (plSt1 f A' B' (g + 1) (v ++ [(p.1, tk p.2.1 p.2.2)])) (.exit 0) (plOut f (g + ((prN (n + 1) A B).filterMap (ruleF tk)).length) (v ++ (prN (n + 1) A B).filterMap (ruleF tk)))) ∧
        (¬ tk p.2.1 p.2.2 > 0 → RunL P G none 5 (loopAt P 37 0) (plSt1 f A' B' g v) (.exit 0) (plOut f (g + ((prN (n + 1) A B).filterMap (ruleF tk)).length) (v ++ (prN (n + 1) A B).filterMap (ruleF tk)))) := fun {p A' B'} h => by
      refine ⟨fun hp => ?_, fun hp => ?_⟩
      · have := ih A' B' (g + 1) (v ++ [(p.1, tk p.2.1 p.2.2)]) (by have := h.1; omega) (by have := h.2.1; omega) (by have := h.2.2.1; omega) (by simp; omega)
        have e : ruleF tk p = some (p.1, tk p.2.1 p.2.2) := if_pos hp
        rw [h.2.2.2 n, List.filterMap_cons_some e, List.length_cons, show g + (((prN n A' B').filterMap (ruleF tk)).length + 1) = g + 1 + ((prN n A' B').filterMap (ruleF tk)).length by omega, show v ++ (p.1, tk p.2.1 p.2.2) :: (prN n A' B').filterMap (ruleF tk) = v ++ [(p.1, tk p.2.1 p.2.2)] ++ (prN n A' B').filterMap (ruleF tk) by simp]
        exact this
      · have := ih A' B' g v (by have := h.1; omega) (by have := h.2.1; omega) (by have := h.2.2.1; omega) (by omega)
        have e : ruleF tk p = none := if_neg hp
        rw [h.2.2.2 n, List.filterMap_cons_none e]
        exact this
    have gx : ∀ {l : List D}, ((l.length : Int) > 0) → ∃ x, l[0]? = some x := fun h => ⟨_, List.getElem?_eq_getElem (by omega)⟩
    refine pl_w1 f tk A B g v (by omega) hy1 hA hB _ _ ⟨fun h => ?_, fun h => ⟨fun h' => ?_, fun h' => ⟨rfl, ?_⟩⟩⟩
    · obtain ⟨x, hx⟩ := gx h
      refine ⟨fun h' => ⟨x, hx, fin (s1 x hx (by omega))⟩, fun h' => ?_⟩
      obtain ⟨y, hy⟩ := gx (l := B) (by omega)
      exact ⟨x, hx, y, hy, ⟨fun h1 => fin (s2 x y hx hy h1), fun h1 => ⟨fun h2 => fin (s3 x y hx hy h1 h2), fun h2 => fin (s4 x y hx hy h1 h2)⟩⟩⟩
    · obtain ⟨y, hy⟩ := gx h'
      exact ⟨y, hy, fin (s5 y (by omega) hy)⟩
    · have ea : A = [] := List.eq_nil_of_length_eq_zero (by omega)
      have eb : B = [] := List.eq_nil_of_length_eq_zero (by omega)
      subst ea eb
      simp only [prN, List.filterMap_nil, List.append_nil, List.length_nil, Nat.add_zero]
      rfl
 include hy0
theorem pl_loop0 : ∀ n A B, A.length + B.length ≤ n → A.length ≤ 1000000000 → B.length ≤ 1000000000 → n ≤ 2000000000 →
    RunL P G none 5 (loopAt P 37 0) (plSt0 f A B) (.exit 0) (plFin f ((prN n A B).filterMap (ruleF tk))) := by
  intro n
  induction n with
  | zero =>
    intro A B hn hA hB hv
    have ea : A = [] := List.eq_nil_of_length_eq_zero (by omega)
    have eb : B = [] := List.eq_nil_of_length_eq_zero (by omega)
    subst ea eb
    refine pl_w0 f tk [] [] hy0 hA hB _ _ ⟨fun h => absurd h (by simp), fun _ => ⟨fun h => absurd h (by simp), fun _ => ⟨rfl, ?_⟩⟩⟩
    rfl
  | succ n ih =>
    intro A B hn hA hB hv
    obtain ⟨s1, s2, s3, s4, s5⟩ := pr_arms A B
    have fin : ∀ {p A' B'}, prStep A B p A' B' →
        (tk p.2.1 p.2.2 > 0 → RunL P G none 5 (loopAt P 37 0) (plSt1 f A' B' 0 [(p.1, tk p.2.1 p.2.2)]) (.exit 0) (plFin f ((prN (n + 1) A B).filterMap (ruleF tk)))) ∧
        (¬ tk p.2.1 p.2.2 > 0 → RunL P G none 5 (loopAt P 37 0) (plSt0 f A' B') (.exit 0) (plFin f ((prN (n + 1) A B).filterMap (ruleF tk)))) := fun {p A' B'} h => by
      refine ⟨fun hp => ?_, fun hp => ?_⟩
      · have := pl_loop1 f tk hy1 n A' B' 0 [(p.1, tk p.2.1 p.2.2)] (by have := h.1; omega) (by have := h.2.1; omega) (by have := h.2.2.1; omega) (by simp; omega)
        have e : ruleF tk p = some (p.1, tk p.2.1 p.2.2) := if_pos hp
        rw [h.2.2.2 n, List.filterMap_cons_some e]
        have hne : ¬ (p.1, tk p.2.1 p.2.2) :: (prN n A' B').filterMap (ruleF tk) = [] := by simp
        unfold plFin
        rw [if_neg hne]
        rw [Nat.zero_add] at this
        exact this
      · have := ih A' B' (by have := h.1; omega) (by have := h.2.1; omega) (by have := h.2.2.1; omega) (by omega)
        have e : ruleF tk p = none := if_neg hp
        rw [h.2.2.2 n, List.filterMap_cons_none e]
        exact this
    have gx : ∀ {l : List D}, ((l.length : Int) > 0) → ∃ x, l[0]? = some x := fun h => ⟨_, List.getElem?_eq_getElem (by omega)⟩
    refine pl_w0 f tk A B hy0 hA hB _ _ ⟨fun h => ?_, fun h => ⟨fun h' => ?_, fun h' => ⟨rfl, ?_⟩⟩⟩
    · obtain ⟨x, hx⟩ := gx h
      refine ⟨fun h' => ⟨x, hx, fin (s1 x hx (by omega))⟩, fun h' => ?_⟩
      obtain ⟨y, hy⟩ := gx (l := B) (by omega)
      exact ⟨x, hx, y, hy, ⟨fun h1 => fin (s2 x y hx hy h1), fun h1 => ⟨fun h2 => fin (s3 x y hx hy h1 h2), fun h2 => fin (s4 x y hx hy h1 h2)⟩⟩⟩
    · obtain ⟨y, hy⟩ := gx h'
      exact ⟨y, hy, fin (s5 y (by omega) hy)⟩
    · have ea : A = [] := List.eq_nil_of_length_eq_zero (by omega)
      have eb : B = [] := List.eq_nil_of_length_eq_zero (by omega)
      subst ea eb
      rfl
end

def mergeV (tk : Int → Int → Int) (a b : List D) : List D := (prN (a.length + b.length) a b).filterMap (ruleF tk)

theorem pl_g (a b : List D) (ha : a.length ≤ 1000000000) (hb : b.length ≤ 1000000000) : RunL P G none 5 (loopAt P 37 0) (plSt0 54 a b) (.exit 0) { env := slots 91 [], H := if mergeV gmax a b = [] then q0 54 [] [] else q1 54 [] [] ((mergeV gmax a b).length - 1) (mergeV gmax a b) } :=
  pl_loop0 54 gmax gy0 gy1 _ a b (Nat.le_refl _) ha hb (by omega)
theorem pl_l (a b : List D) (ha : a.length ≤ 1000000000) (hb : b.length ≤ 1000000000) : RunL P G none 5 (loopAt P 37 0) (plSt0 55 a b) (.exit 0) { env := slots 91 [], H := if mergeV gmin a b = [] then q0 55 [] [] else q1 55 [] [] ((mergeV gmin a b).length - 1) (mergeV gmin a b) } :=
  pl_loop0 55 gmin ly0 ly1 _ a b (Nat.le_refl _) ha hb (by omega)

theorem p37g_w_p1 (a : List D) (b : List D) : runF P G 37 [AV.yl 0, AV.ptr 1 0, AV.ptr 2 0] (q0 54 a b) [Orc.loop [3, 4, 5, 6, 7, 8, 9, 10, 11, 12, 13, 14, 15, 16, 17, 18, 19, 20, 21, 22, 23, 24, 25, 26, 27, 28, 29, 30, 31, 32, 33, 34, 35, 36, 37, 38, 39, 40, 41, 42, 43, 44, 45, 46, 47, 48, 49, 50, 51, 52, 53, 54, 55, 56, 57, 58, 59, 60, 61, 62, 63, 64, 65, 66, 67, 68, 69, 70, 71, 72, 73, 74, 75, 76, 77, 78, 79, 80, 81, 82, 83, 84, 85, 86, 87, 88, 89, 90] 5 (AEx.exit 0) [AV.dead, AV.dead, AV.dead, AV.dead, AV.dead, AV.dead, AV.dead, AV.dead, AV.dead, AV.dead, AV.dead, AV.dead, AV.dead, AV.dead, AV.dead, AV.dead, AV.dead, AV.dead, AV.dead, AV.dead, AV.dead, AV.dead, AV.dead, AV.dead, AV.dead, AV.dead, AV.dead, AV.dead, AV.dead, AV.dead, AV.dead, AV.dead, AV.dead, AV.dead, AV.dead, AV.dead, AV.dead, AV.dead, AV.dead, AV.dead, AV.dead, AV.dead, AV.dead, AV.dead, AV.dead, AV.dead, AV.dead, AV.dead, AV.dead, AV.dead, AV.dead, AV.dead, AV.dead, AV.dead, AV.dead, AV.dead, AV.dead, AV.dead, AV.dead, AV.dead, AV.dead, AV.dead, AV.dead, AV.dead, AV.dead, AV.dead, AV.dead, AV.dead, AV.dead, AV.dead, AV.dead, AV.dead, AV.dead, AV.dead, AV.dead, AV.dead, AV.dead, AV.dead, AV.dead, AV.dead, AV.dead, AV.dead, AV.dead, AV.dead, AV.dead, AV.dead, AV.dead, AV.dead, AV.dead, AV.dead, AV.dead] [jrng, AObj.box [AV.sl 2 false []], AObj.box [AV.sl 2 false []], AObj.box [AV.lit (Value.func (Fn.func 54) { toList := [] } { toList := [] })], AObj.box [nilS]]] =
    some (AOut.ret (AV.tup []), [jrng, AObj.box [AV.sl 2 false []], AObj.box [AV.sl 2 false []], AObj.box [AV.lit (Value.func (Fn.func 54) { toList := [] } { toList := [] })], AObj.box [nilS]], [RunL P G none 5 (loopAt P 37 0) { env := slots 91 [(0, AV.yl 0), (1, AV.ptr 1 0), (2, AV.ptr 2 0)], H := [jrng, AObj.box [AV.sl 2 false (encs a)], AObj.box [AV.sl 2 false (encs b)], AObj.box [AV.lit (Value.func (Fn.func 54) { toList := [] } { toList := [] })], AObj.box [nilS]] } (AEx.exit 0) { env := slots 91 [], H := [jrng, AObj.box [AV.sl 2 false []], AObj.box [AV.sl 2 false []], AObj.box [AV.lit (Value.func (Fn.func 54) { toList := [] } { toList := [] })], AObj.box [nilS]] }]) := by kernel_rfl

theorem p37g_w_p2 (a : List D) (b : List D) : runF P G 37 [AV.yl 0, AV.ptr 1 0, AV.ptr 2 0] (q0 54 a b) [Orc.loop [3, 4, 5, 6, 7, 8, 9, 10, 11, 12, 13, 14, 15, 16, 17, 18, 19, 20, 21, 22, 23, 24, 25, 26, 27, 28, 29, 30, 31, 32, 33, 34, 35, 36, 37, 38, 39, 40, 41, 42, 43, 44, 45, 46, 47, 48, 49, 50, 51, 52, 53, 54, 55, 56, 57, 58, 59, 60, 61, 62, 63, 64, 65, 66, 67, 68, 69, 70, 71, 72, 73, 74, 75, 76, 77, 78, 79, 80, 81, 82, 83, 84, 85, 86, 87, 88, 89, 90] 5 (AEx.exit 0) [AV.dead, AV.dead, AV.dead, AV.dead, AV.dead, AV.dead, AV.dead, AV.dead, AV.dead, AV.dead, AV.dead, AV.dead, AV.dead, AV.dead, AV.dead, AV.dead, AV.dead, AV.dead, AV.dead, AV.dead, AV.dead, AV.dead, AV.dead, AV.dead, AV.dead, AV.dead, AV.dead, AV.dead, AV.dead, AV.dead, AV.dead, AV.dead, AV.dead, AV.dead, AV.dead, AV.dead, AV.dead, AV.dead, AV.dead, AV.dead, AV.dead, AV.dead, AV.dead, AV.dead, AV.dead, AV.dead, AV.dead, AV.dead, AV.dead, AV.dead, AV.dead, AV.dead, AV.dead, AV.dead, AV.dead, AV.dead, AV.dead, AV.dead, AV.dead, AV.dead, AV.dead, AV.dead, AV.dead, AV.dead, AV.dead, AV.dead, AV.dead, AV.dead, AV.dead, AV.dead, AV.dead, AV.dead, AV.dead, AV.dead, AV.dead, AV.dead, AV.dead, AV.dead, AV.dead, AV.dead, AV.dead, AV.dead, AV.dead, AV.dead, AV.dead, AV.dead, AV.dead, AV.dead, AV.dead, AV.dead, AV.dead] [jrng, AObj.box [AV.sl 2 false []], AObj.box [AV.sl 2 false []], AObj.box [AV.lit (Value.func (Fn.func 54) { toList := [] } { toList := [] })], AObj.box [AV.own 7 (List.length (mergeV gmax a b) - 1) 0 (List.length (mergeV gmax a b))], AObj.gone, AObj.gone, AObj.arr (List.length (mergeV gmax a b) - 1) 2 false (encs (mergeV gmax a b))]] =
    some (AOut.ret (AV.tup []), [jrng, AObj.box [AV.sl 2 false []], AObj.box [AV.sl 2 false []], AObj.box [AV.lit (Value.func (Fn.func 54) { toList := [] } { toList := [] })], AObj.box [AV.own 7 (List.length (mergeV gmax a b) - 1) 0 (List.length (mergeV gmax a b))], AObj.gone, AObj.gone, AObj.arr (List.length (mergeV gmax a b) - 1) 2 false (encs (mergeV gmax a b))], [RunL P G none 5 (loopAt P 37 0) { env := slots 91 [(0, AV.yl 0), (1, AV.ptr 1 0), (2, AV.ptr 2 0)], H := [jrng, AObj.box [AV.sl 2 false (encs a)], AObj.box [AV.sl 2 false (encs b)], AObj.box [AV.lit (Value.func (Fn.func 54) { toList := [] } { toList := [] })], AObj.box [nilS]] } (AEx.exit 0) { env := slots 91 [], H := [jrng, AObj.box [AV.sl 2 false []], AObj.box [AV.sl 2 false []], AObj.box [AV.lit (Value.func (Fn.func 54) { toList := [] } { toList := [] })], AObj.box [AV.own 7 (List.length (mergeV gmax a b) - 1) 0 (List.length (mergeV gmax a b))], AObj.gone, AObj.gone, AObj.arr (List.length (mergeV gmax a b) - 1) 2 false (encs (mergeV gmax a b))] }]) := by kernel_rfl

theorem p37g_w (a b : List D) (ha : a.length ≤ 1000000000) (hb : b.length ≤ 1000000000) (h : (((mergeV gmax a b = []) → [jrng, AObj.box [AV.sl 2 false []], AObj.box [AV.sl 2 false []], AObj.box [AV.lit (Value.func (Fn.func 54) { toList := [] } { toList := [] })], AObj.box [nilS]] = if mergeV gmax a b = [] then q0 54 [] [] else q1 54 [] [] (List.length (mergeV gmax a b) - 1) (mergeV gmax a b)) ∧ ((¬mergeV gmax a b = []) → [jrng, AObj.box [AV.sl 2 false []], AObj.box [AV.sl 2 false []], AObj.box [AV.lit (Value.func (Fn.func 54) { toList := [] } { toList := [] })], AObj.box [AV.own 7 (List.length (mergeV gmax a b) - 1) 0 (List.length (mergeV gmax a b))], AObj.gone, AObj.gone, AObj.arr (List.length (mergeV gmax a b) - 1) 2 false (encs (mergeV gmax a b))] = if mergeV gmax a b = [] then q0 54 [] [] else q1 54 [] [] (List.length (mergeV gmax a b) - 1) (mergeV gmax a b)))) : CallC P G 37 [AV.yl 0, AV.ptr 1 0, AV.ptr 2 0] (q0 54 a b) (AOut.ret (AV.tup [])) (if mergeV gmax a b = [] then q0 54 [] [] else q1 54 [] [] (List.length (mergeV gmax a b) - 1) (mergeV gmax a b)) := by
  by_cases c1 : (mergeV gmax a b = [])
  · have h := h.1 c1
    have eH := h
    exact CallC.heap (callC_of_run _ (p37g_w_p1 a b) ⟨(by have h0 := (@Go.Vec.pl_g (a) (b) (by omega) (by omega)); simp only [if_pos c1] at h0; exact h0), trivial⟩) eH
  · have h := h.2 c1
    have eH := h
    exact CallC.heap (callC_of_run _ (p37g_w_p2 a b) ⟨(by have h0 := (@Go.Vec.pl_g (a) (b) (by omega) (by omega)); simp only [if_neg c1] at h0; exact h0), trivial⟩) eH


theorem p37l_w_p1 (a : List D) (b : List D) : runF P G 37 [AV.yl 0, AV.ptr 1 0, AV.ptr 2 0] (q0 55 a b) [Orc.loop [3, 4, 5, 6, 7, 8, 9, 10, 11, 12, 13, 14, 15, 16, 17, 18, 19, 20, 21, 22, 23, 24, 25, 26, 27, 28, 29, 30, 31, 32, 33, 34, 35, 36, 37, 38, 39, 40, 41, 42, 43, 44, 45, 46, 47, 48, 49, 50, 51, 52, 53, 54, 55, 56, 57, 58, 59, 60, 61, 62, 63, 64, 65, 66, 67, 68, 69, 70, 71, 72, 73, 74, 75, 76, 77, 78, 79, 80, 81, 82, 83, 84, 85, 86, 87, 88, 89, 90] 5 (AEx.exit 0) [AV.dead, AV.dead, AV.dead, AV.dead, AV.dead, AV.dead, AV.dead, AV.dead, AV.dead, AV.dead, AV.dead, AV.dead, AV.dead, AV.dead, AV.dead, AV.dead, AV.dead, AV.dead, AV.dead, AV.dead, AV.dead, AV.dead, AV.dead, AV.dead, AV.dead, AV.dead, AV.dead, AV.dead, AV.dead, AV.dead, AV.dead, AV.dead, AV.dead, AV.dead, AV.dead, AV.dead, AV.dead, AV.dead, AV.dead, AV.dead, AV.dead, AV.dead, AV.dead, AV.dead, AV.dead, AV.dead, AV.dead, AV.dead, AV.dead, AV.dead, AV.dead, AV.dead, AV.dead, AV.dead, AV.dead, AV.dead, AV.dead, AV.dead, AV.dead, AV.dead, AV.dead, AV.dead, AV.dead, AV.dead, AV.dead, AV.dead, AV.dead, AV.dead, AV.dead, AV.dead, AV.dead, AV.dead, AV.dead, AV.dead, AV.dead, AV.dead, AV.dead, AV.dead, AV.dead, AV.dead, AV.dead, AV.dead, AV.dead, AV.dead, AV.dead, AV.dead, AV.dead, AV.dead, AV.dead, AV.dead, AV.dead] [jrng, AObj.box [AV.sl 2 false []], AObj.box [AV.sl 2 false []], AObj.box [AV.lit (Value.func (Fn.func 55) { toList := [] } { toList := [] })], AObj.box [nilS]]] =
    some (AOut.ret (AV.tup []), [jrng, AObj.box [AV.sl 2 false []], AObj.box [AV.sl 2 false []], AObj.box [AV.lit (Value.func (Fn.func 55) { toList := [] } { toList := [] })], AObj.box [nilS]], [RunL P G none 5 (loopAt P 37 0) { env := slots 91 [(0, AV.yl 0), (1, AV.ptr 1 0), (2, AV.ptr 2 0)], H := [jrng, AObj.box [AV.sl 2 false (encs a)], AObj.box [AV.sl 2 false (encs b)], AObj.box [AV.lit (Value.func (Fn.func 55) { toList := [] } { toList := [] })], AObj.box [nilS]] } (AEx.exit 0) { env := slots 91 [], H := [jrng, AObj.box [AV.sl 2 false []], AObj.box [AV.sl 2 false []], AObj.box [AV.lit (Value.func (Fn.func 55) { toList := [] } { toList := [] })], AObj.box [nilS]] }]) := by kernel_rfl

theorem p37l_w_p2 (a : List D) (b : List D) : runF P G 37 [AV.yl 0, AV.ptr 1 0, AV.ptr 2 0] (q0 55 a b) [Orc.loop [3, 4, 5, 6, 7, 8, 9, 10, 11, 12, 13, 14, 15, 16, 17, 18, 19, 20, 21, 22, 23, 24, 25, 26, 27, 28, 29, 30, 31, 32, 33, 34, 35, 36, 37, 38, 39, 40, 41, 42, 43, 44, 45, 46, 47, 48, 49, 50, 51, 52, 53, 54, 55, 56, 57, 58, 59, 60, 61, 62, 63, 64, 65, 66, 67, 68, 69, 70, 71, 72, 73, 74, 75, 76, 77, 78, 79, 80, 81, 82, 83, 84, 85, 86, 87, 88, 89, 90] 5 (AEx.exit 0) [AV.dead, AV.dead, AV.dead, AV.dead, AV.dead, AV.dead, AV.dead, AV.dead, AV.dead, AV.dead, AV.dead, AV.dead, AV.dead, AV.dead, AV.dead, AV.dead, AV.dead, AV.dead, AV.dead, AV.dead, AV.dead, AV.dead, AV.dead, AV.dead, AV.dead, AV.dead, AV.dead, AV.dead, AV.dead, AV.dead, AV.dead, AV.dead, AV.dead, AV.dead, AV.dead, AV.dead, AV.dead, AV.dead, AV.dead, AV.dead, AV.dead, AV.dead, AV.dead, AV.dead, AV.dead, AV.dead, AV.dead, AV.dead, AV.dead, AV.dead, AV.dead, AV.dead, AV.dead, AV.dead, AV.dead, AV.dead, AV.dead, AV.dead, AV.dead, AV.dead, AV.dead, AV.dead, AV.dead, AV.dead, AV.dead, AV.dead, AV.dead, AV.dead, AV.dead, AV.dead, AV.dead, AV.dead, AV.dead, AV.dead, AV.dead, AV.dead, AV.dead, AV.dead, AV.dead, AV.dead, AV.dead, AV.dead, AV.dead, AV.dead, AV.dead, AV.dead, AV.dead, AV.dead, AV.dead, AV.dead, AV.dead] [jrng, AObj.box [AV.sl 2 false []], AObj.box [AV.sl 2 false []], AObj.box [AV.lit (Value.func (Fn.func 55) { toList := [] } { toList := [] })], AObj.box [AV.own 7 (List.length (mergeV gmin a b) - 1) 0 (List.length (mergeV gmin a b))], AObj.gone, AObj.gone, AObj.arr (List.length (mergeV gmin a b) - 1) 2 false (encs (mergeV gmin a b))]] =
    some (AOut.ret (AV.tup []), [jrng, AObj.box [AV.sl 2 false []], AObj.box [AV.sl 2 false []], AObj.box [AV.lit (Value.func (Fn.func 55) { toList := [] } { toList := [] })], AObj.box [AV.own 7 (List.length (mergeV gmin a b) - 1) 0 (List.length (mergeV gmin a b))], AObj.gone, AObj.gone, AObj.arr (List.length (mergeV gmin a b) - 1) 2 false (encs (mergeV gmin a b))], [RunL P G none 5 (loopAt P 37 0) { env := slots 91 [(0, AV.yl 0), (1, AV.ptr 1 0), (2, AV.ptr 2 0)], H := [jrng, AObj.box [AV.sl 2 false (encs a)], AObj.box [AV.sl 2 false (encs b)], AObj.box [AV.lit (Value.func (Fn.func 55) { toList := [] } { toList := [] })], AObj.box [nilS]] } (AEx.exit 0) { env := slots 91 [], H := [jrng, AObj.box [AV.sl 2 false []], AObj.box [AV.sl 2 false []], AObj.box [AV.lit (Value.func (Fn.func 55) { toList := [] } { toList := [] })], AObj.box [AV.own 7 (List.length (mergeV gmin a b) - 1) 0 (List.length (mergeV gmin a b))], AObj.gone, AObj.gone, AObj.arr (List.length (mergeV gmin a b) - 1) 2 false (encs (mergeV gmin a b))] }]) := by kernel_rfl

theorem p37l_w (a b : List D) (ha : a.length ≤ 1000000000) (hb : b.length ≤ 1000000000) (h : (((mergeV gmin a b = []) → [jrng, AObj.box [AV.sl 2 false []], AObj.box [AV.sl 2 false []], AObj.box [AV.lit (Value.func (Fn.func 55) { toList := [] } { toList := [] })], AObj.box [nilS]] = if mergeV gmin a b = [] then q0 55 [] [] else q1 55 [] [] (List.length (mergeV gmin a b) - 1) (mergeV gmin a b)) ∧ ((¬mergeV gmin a b = []) → [jrng, AObj.box [AV.sl 2 false []], AObj.box [AV.sl 2 false []], AObj.box [AV.lit (Value.func (Fn.func 55) { toList := [] } { toList := [] })], AObj.box [AV.own 7 (List.length (mergeV gmin a b) - 1) 0 (List.length (mergeV gmin a b))], AObj.gone, AObj.gone, AObj.arr (List.length (mergeV gmin a b) - 1) 2 false (encs (mergeV gmin a b))] = if mergeV gmin a b = [] then q0 55 [] [] else q1 55 [] [] (List.length (mergeV gmin a b) - 1) (mergeV gmin a b)))) : CallC P G 37 [AV.yl 0, AV.ptr 1 0, AV.ptr 2 0] (q0 55 a b) (AOut.ret (AV.tup [])) (if mergeV gmin a b = [] then q0 55 [] [] else q1 55 [] [] (List.length (mergeV gmin a b) - 1) (mergeV gmin a b)) := by
  by_cases c1 : (mergeV gmin a b = [])
  · have h := h.1 c1
    have eH := h
    exact CallC.heap (callC_of_run _ (p37l_w_p1 a b) ⟨(by have h0 := (@Go.Vec.pl_l (a) (b) (by omega) (by omega)); simp only [if_pos c1] at h0; exact h0), trivial⟩) eH
  · have h := h.2 c1
    have eH := h
    exact CallC.heap (callC_of_run _ (p37l_w_p2 a b) ⟨(by have h0 := (@Go.Vec.pl_l (a) (b) (by omega) (by omega)); simp only [if_neg c1] at h0; exact h0), trivial⟩) eH


theorem p37g_c (a b : List D) (ha : a.length ≤ 1000000000) (hb : b.length ≤ 1000000000) : CallC P G 37 [.yl 0, .ptr 1 0, .ptr 2 0] (q0 54 a b) (.ret (.tup [])) (if mergeV gmax a b = [] then q0 54 [] [] else q1 54 [] [] ((mergeV gmax a b).length - 1) (mergeV gmax a b)) :=
  p37g_w a b ha hb ⟨fun h => by rw [if_pos h]; rfl, fun h => by rw [if_neg h]; rfl⟩
theorem p37l_c (a b : List D) (ha : a.length ≤ 1000000000) (hb : b.length ≤ 1000000000) : CallC P G 37 [.yl 0, .ptr 1 0, .ptr 2 0] (q0 55 a b) (.ret (.tup [])) (if mergeV gmin a b = [] then q0 55 [] [] else q1 55 [] [] ((mergeV gmin a b).length - 1) (mergeV gmin a b)) :=
  p37l_w a b ha hb ⟨fun h => by rw [if_pos h]; rfl, fun h => by rw [if_neg h]; rfl⟩

theorem mg_w_p1 (a : List D) (b : List D) : runF P G 31 [AV.agg [rl 54], vec a, vec b] [] [Orc.call [] (AOut.ret (int (check2E a b))) [], Orc.br false, Orc.call [] (AOut.ret (AV.fn (Fn.func 37) [] [AV.ptr 0 0, AV.ptr 1 0])) [AObj.box [vec a], AObj.box [vec b]], Orc.range [0, 1, 2, 4, 5, 7, 8, 9, 10, 11, 12, 13, 14, 15, 16, 17, 18, 19, 20, 21, 22, 23, 24, 25, 26, 27, 28, 29, 30, 31, 32, 33, 34] 0 none AEx.normal [] [], Orc.call [5, 2, 3, 0, 1] (AOut.ret (AV.tup [])) (q0 54 [] [])] =
    some (AOut.ret (AV.tup [nilS, int 0]), [], [CallC P G 34 [AV.sl 2 false (encs a), AV.sl 2 false (encs b)] [] (AOut.ret (int (check2E a b))) [], (check2E a b != 0) = false, CallC P G 35 [AV.sl 2 false (encs a), AV.sl 2 false (encs b)] [] (AOut.ret (AV.fn (Fn.func 37) [] [AV.ptr 0 0, AV.ptr 1 0])) [AObj.box [AV.sl 2 false (encs a)], AObj.box [AV.sl 2 false (encs b)]], CallC P G 37 [AV.yl 0, AV.ptr 1 0, AV.ptr 2 0] [AObj.rng LoopState.ready none (slots 35 [(3, AV.ptr 3 0), (6, AV.ptr 4 0)]) { toList := [20] } (asgAt P 31 0) (rbodyAt P 31 0), AObj.box [AV.sl 2 false (encs a)], AObj.box [AV.sl 2 false (encs b)], AObj.box [AV.lit (Value.func (Fn.func 54) { toList := [] } { toList := [] })], AObj.box [nilS]] (AOut.ret (AV.tup [])) [jrng, AObj.box [AV.sl 2 false []], AObj.box [AV.sl 2 false []], AObj.box [AV.lit (Value.func (Fn.func 54) { toList := [] } { toList := [] })], AObj.box [nilS]]]) := by kernel_rfl

theorem mg_w_p2 (a : List D) (b : List D) : runF P G 31 [AV.agg [rl 54], vec a, vec b] [] [Orc.call [] (AOut.ret (int (check2E a b))) [], Orc.br false, Orc.call [] (AOut.ret (AV.fn (Fn.func 37) [] [AV.ptr 0 0, AV.ptr 1 0])) [AObj.box [vec a], AObj.box [vec b]], Orc.range [0, 1, 2, 4, 5, 7, 8, 9, 10, 11, 12, 13, 14, 15, 16, 17, 18, 19, 20, 21, 22, 23, 24, 25, 26, 27, 28, 29, 30, 31, 32, 33, 34] 0 none AEx.normal [] [], Orc.call [5, 2, 3, 0, 1] (AOut.ret (AV.tup [])) (q1 54 [] [] (List.length (mergeV gmax a b) - 1) (mergeV gmax a b)), Orc.fz (some 34) (encs (mergeV gmax a b))] =
    some (AOut.ret (AV.tup [AV.sl 2 false (encs (mergeV gmax a b)), int 0]), [], [CallC P G 34 [AV.sl 2 false (encs a), AV.sl 2 false (encs b)] [] (AOut.ret (int (check2E a b))) [], (check2E a b != 0) = false, CallC P G 35 [AV.sl 2 false (encs a), AV.sl 2 false (encs b)] [] (AOut.ret (AV.fn (Fn.func 37) [] [AV.ptr 0 0, AV.ptr 1 0])) [AObj.box [AV.sl 2 false (encs a)], AObj.box [AV.sl 2 false (encs b)]], CallC P G 37 [AV.yl 0, AV.ptr 1 0, AV.ptr 2 0] [AObj.rng LoopState.ready none (slots 35 [(3, AV.ptr 3 0), (6, AV.ptr 4 0)]) { toList := [20] } (asgAt P 31 0) (rbodyAt P 31 0), AObj.box [AV.sl 2 false (encs a)], AObj.box [AV.sl 2 false (encs b)], AObj.box [AV.lit (Value.func (Fn.func 54) { toList := [] } { toList := [] })], AObj.box [nilS]] (AOut.ret (AV.tup [])) [jrng, AObj.box [AV.sl 2 false []], AObj.box [AV.sl 2 false []], AObj.box [AV.lit (Value.func (Fn.func 54) { toList := [] } { toList := [] })], AObj.box [AV.own 7 (List.length (mergeV gmax a b) - 1) 0 (List.length (mergeV gmax a b))], AObj.gone, AObj.gone, AObj.arr (List.length (mergeV gmax a b) - 1) 2 false (encs (mergeV gmax a b))], ∀ (x : List AV), x ∈ encs (mergeV gmax a b) → AV.idsInL [] x = true, List.length (mergeV gmax a b) - 1 = List.length (mergeV gmax a b) - 1, List.take (List.length (mergeV gmax a b)) (List.drop 0 (encs (mergeV gmax a b))) = encs (mergeV gmax a b), List.length (encs (mergeV gmax a b)) = List.length (mergeV gmax a b), ∀ (c : List AV), c ∈ encs (mergeV gmax a b) → List.all c AV.pureB = true]) := by kernel_rfl

theorem mg_w (a b : List D) (ha : a.length ≤ 1000000000) (hb : b.length ≤ 1000000000) (he : check2E a b = 0) (h : (((mergeV gmax a b = []) → [] = mergeV gmax a b) ∧ ((¬mergeV gmax a b = []) → True))) : CallC P G 31 [AV.agg [rl 54], vec a, vec b] [] (AOut.ret (AV.tup [vec (mergeV gmax a b), int 0])) [] := by
  by_cases c2 : (mergeV gmax a b = [])
  · have h := h.1 c2
    have e1 := h
    exact CallC.out (callC_of_run _ (mg_w_p1 a b) ⟨(@Go.Vec.check2_c (a) (b) (by omega) (by omega)), (congrArg Bool.not (decide_eq_true (by omega))), (@Go.Vec.pairs_c (a) (b)), (by have h0 := (@Go.Vec.p37g_c (a) (b) (by omega) (by omega)); simp only [if_pos c2] at h0; exact h0), trivial⟩) (Sub.tups ⟨(Sub.nil_eq (congrArg (List.map enc) e1)), Sub.refl _, trivial⟩)
  · have h := h.2 c2
    have _ := h
    exact callC_of_run _ (mg_w_p2 a b) ⟨(@Go.Vec.check2_c (a) (b) (by omega) (by omega)), (congrArg Bool.not (decide_eq_true (by omega))), (@Go.Vec.pairs_c (a) (b)), (by have h0 := (@Go.Vec.p37g_c (a) (b) (by omega) (by omega)); simp only [if_neg c2] at h0; exact h0), (Go.Vec.encs_ids _), (rfl), (Go.Vec.encs_all _), (Go.Vec.encs_length _), (Go.Vec.encs_pure _), trivial⟩


end Go.Vec
