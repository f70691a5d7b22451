import Derived.Test.YtkckmpmlbmdalaaDoorQ9
import Derived.KernelRfl
/- VECTOR, 1: what IsDot, Check, Few, Same and At do, in both packages. -/
namespace Go.Vec
set_option maxRecDepth 100000
set_option linter.unusedSimpArgs false
set_option linter.unusedVariables false
open Go Go.Am Go.Proofs Go.Seat

def isDotB (d : D) : Bool := decide (d.1 ≥ 0) && decide (d.1 < 512) && decide (d.2 ≥ 1) && decide (d.2 ≤ 1048576)

theorem isDot_w (a b : Int) (h : (((a ≥ (0 : Int)) → (((a < (512 : Int)) → (((b ≥ (1 : Int)) → (decide (b ≤ (1048576 : Int))) = (isDotB (a, b))) ∧ ((¬b ≥ (1 : Int)) → (false) = (isDotB (a, b))))) ∧ ((¬a < (512 : Int)) → (false) = (isDotB (a, b))))) ∧ ((¬a ≥ (0 : Int)) → (false) = (isDotB (a, b))))) : CallC P G 60 [dot (a, b)] [] (AOut.ret (Am.bool (isDotB (a, b)))) [] := by
  by_cases c1 : (a ≥ (0 : Int))
  · have h := h.1 c1
    by_cases c2 : (a < (512 : Int))
    · have h := h.1 c2
      by_cases c3 : (b ≥ (1 : Int))
      · have h := h.1 c3
        have e1 := h
        exact callC_out (Sub.bool_eq e1) [kt (decide_eq_true c1), kt (decide_eq_true c2), kt (decide_eq_true c3)] (by kernel_rfl)
      · have h := h.2 c3
        have e1 := h
        exact callC_out (Sub.bool_eq e1) [kt (decide_eq_true c1), kt (decide_eq_true c2), kf (decide_eq_false c3)] (by kernel_rfl)
    · have h := h.2 c2
      have e1 := h
      exact callC_out (Sub.bool_eq e1) [kt (decide_eq_true c1), kf (decide_eq_false c2), kf (Eq.refl false)] (by kernel_rfl)
  · have h := h.2 c1
    have e1 := h
    exact callC_out (Sub.bool_eq e1) [kf (decide_eq_false c1), kf (Eq.refl false), kf (Eq.refl false)] (by kernel_rfl)

theorem isDot_c (a b : Int) : CallC P G 60 [dot (a, b)] [] (.ret (bool (isDotB (a, b)))) [] := isDot_w a b (by
  simp only [isDotB]; refine ⟨fun h => ⟨fun h => ⟨fun h => ?_, fun h => ?_⟩, fun h => ?_⟩, fun h => ?_⟩ <;> simp [*])

/-! Check -/
def okAt (v : List D) (k : Nat) : Bool := match v[k]? with
  | some x => isDotB x && (k == 0 || match v[k - 1]? with | some y => decide (y.1 < x.1) | none => false)
  | none => true
def okN (v : List D) : Nat → Nat → Bool
  | 0, _ => true
  | n + 1, k => okAt v k && okN v n (k + 1)
def okB (v : List D) : Bool := okN v v.length 0
def checkE (v : List D) : Int := if okB v = true then 0 else 120

def chkSt (v : List D) (k : Nat) : St := { env := slots 31 [(0, vec v), (2, int 0), (5, vec v), (6, int v.length), (7, int k)], H := [] }

theorem chk_w (v : List D) (k : Nat) (hv : v.length ≤ 1000000000) (ex : AEx) (r : Int) (h : ((((↑k : Int) < (↑(List.length v) : Int)) → (∃ x2 : D, (v[k]? = some x2) ∧ ((((isDotB (Prod.fst x2, Prod.snd x2)) = true) → ((((↑k : Int) > (0 : Int)) → (∃ x6 : D, ((0 : Int) ≤ (↑k : Int) - 1 ∧ v[Int.toNat ((↑k : Int) - 1)]? = some x6) ∧ (((Prod.fst x2 ≤ Prod.fst x6) → (AEx.ret = ex) ∧ ((120 : Int) = (r))) ∧ ((¬Prod.fst x2 ≤ Prod.fst x6) → RunL P G none 0 (loopAt P 25 0) { env := slots 31 [(0, AV.sl 2 false (encs v)), (2, int 0), (5, AV.sl 2 false (encs v)), (6, int (↑(List.length v) : Int)), (7, int (↑(k + 1) : Int))], H := [] } ex { env := slots 31 [(2, int r)], H := [] })))) ∧ ((¬(↑k : Int) > (0 : Int)) → RunL P G none 0 (loopAt P 25 0) { env := slots 31 [(0, AV.sl 2 false (encs v)), (2, int 0), (5, AV.sl 2 false (encs v)), (6, int (↑(List.length v) : Int)), (7, int (↑(k + 1) : Int))], H := [] } ex { env := slots 31 [(2, int r)], H := [] }))) ∧ (((isDotB (Prod.fst x2, Prod.snd x2)) = false) → (AEx.ret = ex) ∧ ((120 : Int) = (r)))))) ∧ ((¬(↑k : Int) < (↑(List.length v) : Int)) → (AEx.exit 0 = ex) ∧ ((0 : Int) = (r))))) : RunL P G none 0 (loopAt P 25 0) (chkSt v k) ex { env := slots 31 [(2, int r)], H := [] } := by
  by_cases c1 : ((↑k : Int) < (↑(List.length v) : Int))
  · have h := h.1 c1
    obtain ⟨x2, o3, h⟩ := h
    have hz0 : (0 : Int) ≤ (↑k : Int) ∧ (encs v)[Int.toNat (↑k : Int)]? = some (enc x2) := (el_nat o3)
    have hz1 := (@Go.Vec.isDot_c (Prod.fst x2) (Prod.snd x2))
    rcases Bool.eq_false_or_eq_true ((isDotB (Prod.fst x2, Prod.snd x2))) with c4 | c4
    · have h := h.1 c4
      have hz2 : (!isDotB (Prod.fst x2, Prod.snd x2)) = false := (congrArg Bool.not (c4))
      by_cases c5 : ((↑k : Int) > (0 : Int))
      · have h := h.1 c5
        have hz3 : Am.Sub (int (IntKind.wrap IntKind.i64 ((↑k : Int) - 1))) (int ((↑k : Int) - 1)) := (Sub.of_wrap (by omega) (by omega) rfl)
        obtain ⟨x6, o7, h⟩ := h
        have hz4 : (0 : Int) ≤ (↑k : Int) - 1 ∧ (encs v)[Int.toNat ((↑k : Int) - 1)]? = some (enc x6) := (el_int o7)
        by_cases c8 : (Prod.fst x2 ≤ Prod.fst x6)
        · have h := h.1 c8
          obtain ⟨eX, e1⟩ := h
          exact RunL.to ((show RunL P G none 0 (loopAt P 25 0) (chkSt v k) AEx.ret { env := slots 31 [(2, int 120)], H := [] } from loop_exit [kt (decide_eq_true c1), ko (Orc.elem (enc x2)), kp hz0, kc [] hz1, kf hz2, kt (decide_eq_true c5), kv 23 hz3, ko (Orc.elem (enc x6)), kp hz4, kt (decide_eq_true c8)] (others 31 [2]) 0 (by kernel_rfl))) eX (SubS.slots ⟨rfl, (Sub.int_eq e1), trivial⟩)
        · have h := h.2 c8
          exact loop_next [kt (decide_eq_true c1), ko (Orc.elem (enc x2)), kp hz0, kc [] hz1, kf hz2, kt (decide_eq_true c5), kv 23 hz3, ko (Orc.elem (enc x6)), kp hz4, kf (decide_eq_false c8), kv 30 (show Am.Sub (int (IntKind.wrap IntKind.i64 ((↑k : Int) + 1))) (int (↑(k + 1) : Int)) from (Sub.of_wrap (by omega) (by omega) (by omega)))] (others 31 [0, 2, 5, 6, 7]) 0 h (by kernel_rfl)
      · have h := h.2 c5
        exact loop_next [kt (decide_eq_true c1), ko (Orc.elem (enc x2)), kp hz0, kc [] hz1, kf hz2, kf (decide_eq_false c5), kf (Eq.refl false), kv 30 (show Am.Sub (int (IntKind.wrap IntKind.i64 ((↑k : Int) + 1))) (int (↑(k + 1) : Int)) from (Sub.of_wrap (by omega) (by omega) (by omega)))] (others 31 [0, 2, 5, 6, 7]) 0 h (by kernel_rfl)
    · have h := h.2 c4
      obtain ⟨eX, e1⟩ := h
      exact RunL.to ((show RunL P G none 0 (loopAt P 25 0) (chkSt v k) AEx.ret { env := slots 31 [(2, int 120)], H := [] } from loop_exit [kt (decide_eq_true c1), ko (Orc.elem (enc x2)), kp hz0, kc [] hz1, kt (show (!isDotB (Prod.fst x2, Prod.snd x2)) = true from (congrArg Bool.not (c4))), kt (Eq.refl true)] (others 31 [2]) 0 (by kernel_rfl))) eX (SubS.slots ⟨rfl, (Sub.int_eq e1), trivial⟩)
  · have h := h.2 c1
    obtain ⟨eX, e1⟩ := h
    exact RunL.to ((show RunL P G none 0 (loopAt P 25 0) (chkSt v k) (AEx.exit 0) { env := slots 31 [(2, int 0)], H := [] } from loop_exit [kf (decide_eq_false c1)] (others 31 [2]) 0 (by kernel_rfl))) eX (SubS.slots ⟨rfl, (Sub.int_eq e1), trivial⟩)

theorem chk_loop (v : List D) (hv : v.length ≤ 1000000000) : ∀ n k, v.length - k = n → k ≤ v.length →
    RunL P G none 0 (loopAt P 25 0) (chkSt v k) (if okN v n k = true then .exit 0 else .ret) { env := slots 31 [(2, int (if okN v n k = true then 0 else 120))], H := [] } := by
  intro n
  induction n with
  | zero => intro k hn hk; exact chk_w v k hv _ _ ⟨fun h => absurd h (by omega), fun _ => ⟨rfl, rfl⟩⟩
  | succ n ih =>
    intro k hn hk
    have hlt : k < v.length := by omega
    have hx : v[k]? = some v[k] := List.getElem?_eq_getElem hlt
    have nx : ∀ {b : Bool}, okAt v k = true → okN v (n + 1) k = okN v n (k + 1) := fun h => by simp [okN, h]
    have bad : okAt v k = false → okN v (n + 1) k = false := fun h => by simp [okN, h]
    refine chk_w v k hv _ _ ⟨fun h => ⟨v[k], hx, ⟨fun hq => ⟨fun h0 => ?_, fun h0 => ?_⟩, fun hq => ?_⟩⟩, fun h => absurd hlt (by omega)⟩
    · have hy : v[k - 1]? = some (v[k - 1]'(by omega)) := List.getElem?_eq_getElem (by omega)
      refine ⟨v[k - 1]'(by omega), ⟨by omega, by rw [show ((k : Int) - 1).toNat = k - 1 by omega]; exact hy⟩, ⟨fun hl => ?_, fun hl => ?_⟩⟩
      · have hb : okAt v k = false := by simp only [okAt, hx, hy]; simp; exact fun _ => ⟨by omega, by omega⟩
        rw [bad hb]; exact ⟨rfl, rfl⟩
      · have hb : okAt v k = true := by simp only [okAt, hx, hy, Bool.and_eq_true]; exact ⟨hq, by simp; exact .inr (by omega)⟩
        rw [nx (b := true) hb]; exact ih (k + 1) (by omega) (by omega)
    · have hb : okAt v k = true := by simp only [okAt, hx, Bool.and_eq_true]; exact ⟨hq, by simp; exact .inl (by omega)⟩
      rw [nx (b := true) hb]; exact ih (k + 1) (by omega) (by omega)
    · have hb : okAt v k = false := by simp only [okAt, hx]; simp [hq]
      rw [bad hb]; exact ⟨rfl, rfl⟩

theorem chk_c (v : List D) (hv : v.length ≤ 1000000000) : RunL P G none 0 (loopAt P 25 0) (chkSt v 0) (if okB v = true then .exit 0 else .ret) { env := slots 31 [(2, int (if okB v = true then 0 else 120))], H := [] } :=
  chk_loop v hv v.length 0 (by omega) (by omega)

theorem check_w (v : List D) (hv : v.length ≤ 1000000000) (h : (((okB v = true) → (0 : Int) = (checkE v)) ∧ ((¬okB v = true) → (120 : Int) = (checkE v)))) : CallC P G 25 [vec v] [] (AOut.ret (int (checkE v))) [] := by
  have hz0 : Am.Sub (int (↑(List.length (encs v)) : Int)) (int (↑(List.length v) : Int)) := (Sub.of_eq (by simp only [Go.Vec.encs_length]))
  by_cases c1 : (okB v = true)
  · have h := h.1 c1
    have e1 := h
    exact callC_out (Sub.int_eq e1) [kv 6 hz0, kl [1, 3, 4, 8, 9, 10, 11, 12, 13, 14, 15, 16, 17, 18, 19, 20, 21, 22, 23, 24, 25, 26, 27, 28, 29, 30] 0 (show RunL P G none 0 (loopAt P 25 0) { env := slots 31 [(0, AV.sl 2 false (encs v)), (2, int 0), (5, AV.sl 2 false (encs v)), (6, int (↑(List.length v) : Int)), (7, int 0)], H := [] } (AEx.exit 0) { env := slots 31 [(2, int 0)], H := [] } from (by have h0 := (@Go.Vec.chk_c (v) (by omega)); simp only [if_pos c1] at h0; exact h0))] (by kernel_rfl)
  · have h := h.2 c1
    have e1 := h
    exact callC_out (Sub.int_eq e1) [kv 6 hz0, kl [1, 3, 4, 8, 9, 10, 11, 12, 13, 14, 15, 16, 17, 18, 19, 20, 21, 22, 23, 24, 25, 26, 27, 28, 29, 30] 0 (show RunL P G none 0 (loopAt P 25 0) { env := slots 31 [(0, AV.sl 2 false (encs v)), (2, int 0), (5, AV.sl 2 false (encs v)), (6, int (↑(List.length v) : Int)), (7, int 0)], H := [] } AEx.ret { env := slots 31 [(2, int 120)], H := [] } from (by have h0 := (@Go.Vec.chk_c (v) (by omega)); simp only [if_neg c1] at h0; exact h0))] (by kernel_rfl)

theorem check_c (v : List D) (hv : v.length ≤ 1000000000) : CallC P G 25 [vec v] [] (.ret (int (checkE v))) [] := check_w v hv ⟨fun h => by simp [checkE, h], fun h => by simp [checkE, h]⟩

theorem few_w (v : List D) (h : True) : CallC P G 23 [vec v] [] (AOut.ret (Am.bool (decide ((↑(List.length v) : Int) ≤ (600 : Int))))) [] := by
  have _ := h
  exact callC_of [kv 4 (show Am.Sub (int (↑(List.length (encs v)) : Int)) (int (↑(List.length v) : Int)) from (Sub.of_eq (by simp only [Go.Vec.encs_length])))] (by kernel_rfl)

theorem few_c (v : List D) : CallC P G 23 [vec v] [] (.ret (bool (decide ((v.length : Int) ≤ 600)))) [] := few_w v trivial

/-! Same -/
def sameSt (a b : List D) (k : Nat) : St := { env := slots 26 [(0, vec a), (1, vec b), (4, bool false), (5, int k)], H := [] }

theorem same_w (a b : List D) (k : Nat) (ha : a.length ≤ 1000000000) (hb : b.length = a.length) (ex : AEx) (r : Bool) (h : ((((↑k : Int) < (↑(List.length a) : Int)) → (∃ x2 : D, (a[k]? = some x2) ∧ (∃ x4 : D, (b[k]? = some x4) ∧ ((((Prod.fst x2 == Prod.fst x4 && Prod.snd x2 == Prod.snd x4) = true) → RunL P G none 0 (loopAt P 43 0) { env := slots 26 [(0, AV.sl 2 false (encs a)), (1, AV.sl 2 false (encs b)), (4, Am.bool false), (5, int (↑(k + 1) : Int))], H := [] } ex { env := slots 26 [(4, Am.bool r)], H := [] }) ∧ (((Prod.fst x2 == Prod.fst x4 && Prod.snd x2 == Prod.snd x4) = false) → (AEx.ret = ex) ∧ ((false) = (r))))))) ∧ ((¬(↑k : Int) < (↑(List.length a) : Int)) → (AEx.exit 0 = ex) ∧ ((false) = (r))))) : RunL P G none 0 (loopAt P 43 0) (sameSt a b k) ex { env := slots 26 [(4, Am.bool r)], H := [] } := by
  have hz0 : Am.Sub (int (↑(List.length (encs a)) : Int)) (int (↑(List.length a) : Int)) := (Sub.of_eq (by simp only [Go.Vec.encs_length]))
  by_cases c1 : ((↑k : Int) < (↑(List.length a) : Int))
  · have h := h.1 c1
    obtain ⟨x2, o3, h⟩ := h
    have hz1 : (0 : Int) ≤ (↑k : Int) ∧ (encs a)[Int.toNat (↑k : Int)]? = some (enc x2) := (el_nat o3)
    obtain ⟨x4, o5, h⟩ := h
    have hz2 : (0 : Int) ≤ (↑k : Int) ∧ (encs b)[Int.toNat (↑k : Int)]? = some (enc x4) := (el_nat o5)
    rcases Bool.eq_false_or_eq_true ((Prod.fst x2 == Prod.fst x4 && Prod.snd x2 == Prod.snd x4)) with c6 | c6
    · have h := h.1 c6
      exact loop_next [kv 13 hz0, kt (decide_eq_true c1), ko (Orc.elem (enc x2)), ko (Orc.elem (enc x4)), kp hz1, kp hz2, kf (show (!(Prod.fst x2 == Prod.fst x4 && Prod.snd x2 == Prod.snd x4)) = false from (congrArg Bool.not (c6))), kv 16 (show Am.Sub (int (IntKind.wrap IntKind.i64 ((↑k : Int) + 1))) (int (↑(k + 1) : Int)) from (Sub.of_wrap (by omega) (by omega) (by omega)))] (others 26 [0, 1, 4, 5]) 0 h (by kernel_rfl)
    · have h := h.2 c6
      obtain ⟨eX, e1⟩ := h
      exact RunL.to ((show RunL P G none 0 (loopAt P 43 0) (sameSt a b k) AEx.ret { env := slots 26 [(4, Am.bool false)], H := [] } from loop_exit [kv 13 hz0, kt (decide_eq_true c1), ko (Orc.elem (enc x2)), ko (Orc.elem (enc x4)), kp hz1, kp hz2, kt (show (!(Prod.fst x2 == Prod.fst x4 && Prod.snd x2 == Prod.snd x4)) = true from (congrArg Bool.not (c6)))] (others 26 [4]) 0 (by kernel_rfl))) eX (SubS.slots ⟨rfl, (Sub.bool_eq e1), trivial⟩)
  · have h := h.2 c1
    obtain ⟨eX, e1⟩ := h
    exact RunL.to ((show RunL P G none 0 (loopAt P 43 0) (sameSt a b k) (AEx.exit 0) { env := slots 26 [(4, Am.bool false)], H := [] } from loop_exit [kv 13 hz0, kf (decide_eq_false c1)] (others 26 [4]) 0 (by kernel_rfl))) eX (SubS.slots ⟨rfl, (Sub.bool_eq e1), trivial⟩)

theorem same_loop (a b : List D) (ha : a.length ≤ 1000000000) (hb : b.length = a.length) : ∀ n k, a.length - k = n → k ≤ a.length →
    RunL P G none 0 (loopAt P 43 0) (sameSt a b k) (if a.drop k = b.drop k then .exit 0 else .ret) { env := slots 26 [(4, bool false)], H := [] } := by
  intro n
  induction n with
  | zero =>
    intro k hn hk
    have e : a.drop k = b.drop k := by rw [List.drop_of_length_le (by omega), List.drop_of_length_le (by omega)]
    exact same_w a b k ha hb _ _ ⟨fun h => absurd h (by omega), fun _ => ⟨by rw [if_pos e], rfl⟩⟩
  | succ n ih =>
    intro k hn hk
    have hlt : k < a.length := by omega
    have hlt' : k < b.length := by omega
    have e1 := List.drop_eq_getElem_cons hlt
    have e2 := List.drop_eq_getElem_cons hlt'
    refine same_w a b k ha hb _ _ ⟨fun h => ⟨a[k], List.getElem?_eq_getElem hlt, b[k], List.getElem?_eq_getElem hlt', ⟨fun hq => ?_, fun hq => ?_⟩⟩, fun h => absurd hlt (by omega)⟩
    · have hab : a[k] = b[k] := by simp at hq; exact Prod.ext hq.1 hq.2
      have h2 := ih (k + 1) (by omega) (by omega)
      by_cases hd : a.drop (k + 1) = b.drop (k + 1)
      · rw [if_pos hd] at h2
        rw [if_pos (by rw [e1, e2, hab, hd])]
        exact h2
      · rw [if_neg hd] at h2
        rw [if_neg (by rw [e1, e2, hab]; exact fun h => hd (List.cons.inj h).2)]
        exact h2
    · have hne : ¬ a.drop k = b.drop k := by
        rw [e1, e2]
        intro he
        injection he with h1 _
        rw [h1] at hq
        simp at hq
      rw [if_neg hne]
      exact ⟨rfl, rfl⟩

theorem same_l (a b : List D) (ha : a.length ≤ 1000000000) (hb : b.length = a.length) : RunL P G none 0 (loopAt P 43 0) (sameSt a b 0) (if a = b then .exit 0 else .ret) { env := slots 26 [(4, bool false)], H := [] } :=
  same_loop a b ha hb _ 0 rfl (by omega)

theorem same_f (a b : List D) (ha : a.length ≤ 1000000000) (h : ((((↑(List.length a) : Int) = (↑(List.length b) : Int)) → (((a = b) → (true) = (decide (a = b))) ∧ ((¬a = b) → (false) = (decide (a = b))))) ∧ ((¬(↑(List.length a) : Int) = (↑(List.length b) : Int)) → (false) = (decide (a = b))))) : CallC P G 43 [vec a, vec b] [] (AOut.ret (Am.bool (decide (a = b)))) [] := by
  have hz0 : Am.Sub (int (↑(List.length (encs a)) : Int)) (int (↑(List.length a) : Int)) := (Sub.of_eq (by simp only [Go.Vec.encs_length]))
  have hz1 : Am.Sub (int (↑(List.length (encs b)) : Int)) (int (↑(List.length b) : Int)) := (Sub.of_eq (by simp only [Go.Vec.encs_length]))
  by_cases c1 : ((↑(List.length a) : Int) = (↑(List.length b) : Int))
  · have h := h.1 c1
    have hz2 : ((↑(List.length a) : Int) != (↑(List.length b) : Int)) = false := (congrArg Bool.not (beq_iff_eq.2 c1))
    by_cases c2 : (a = b)
    · have h := h.1 c2
      have e1 := h
      exact callC_out (Sub.bool_eq e1) [kv 7 hz0, kv 9 hz1, kf hz2, kl [2, 3, 6, 7, 8, 9, 10, 11, 12, 13, 14, 15, 16, 17, 18, 19, 20, 21, 22, 23, 24, 25] 0 (show RunL P G none 0 (loopAt P 43 0) { env := slots 26 [(0, AV.sl 2 false (encs a)), (1, AV.sl 2 false (encs b)), (4, Am.bool false), (5, int 0)], H := [] } (AEx.exit 0) { env := slots 26 [(4, Am.bool false)], H := [] } from (by have h0 := (@Go.Vec.same_l (a) (b) (by omega) (by omega)); simp only [if_pos c2] at h0; exact h0))] (by kernel_rfl)
    · have h := h.2 c2
      have e1 := h
      exact callC_out (Sub.bool_eq e1) [kv 7 hz0, kv 9 hz1, kf hz2, kl [2, 3, 6, 7, 8, 9, 10, 11, 12, 13, 14, 15, 16, 17, 18, 19, 20, 21, 22, 23, 24, 25] 0 (show RunL P G none 0 (loopAt P 43 0) { env := slots 26 [(0, AV.sl 2 false (encs a)), (1, AV.sl 2 false (encs b)), (4, Am.bool false), (5, int 0)], H := [] } AEx.ret { env := slots 26 [(4, Am.bool false)], H := [] } from (by have h0 := (@Go.Vec.same_l (a) (b) (by omega) (by omega)); simp only [if_neg c2] at h0; exact h0))] (by kernel_rfl)
  · have h := h.2 c1
    have e1 := h
    exact callC_out (Sub.bool_eq e1) [kv 7 hz0, kv 9 hz1, kt (show ((↑(List.length a) : Int) != (↑(List.length b) : Int)) = true from (congrArg Bool.not (beq_eq_false_iff_ne.2 c1)))] (by kernel_rfl)

theorem same_c (a b : List D) (ha : a.length ≤ 1000000000) : CallC P G 43 [vec a, vec b] [] (.ret (bool (decide (a = b)))) [] := by
  refine same_f a b ha ⟨fun h => ⟨fun h => by simp [h], fun h => by simp [h]⟩, fun h => ?_⟩
  have : a ≠ b := fun e => h (by rw [e])
  simp [this]

/-! At -/
def hasV (dev : Int) (l : List D) : Bool := l.any fun d => decide (d.1 = dev)
def atV (dev : Int) : List D → Int
  | [] => 0
  | d :: t => if d.1 = dev then d.2 else atV dev t
theorem hasV_cons (dev : Int) (d : D) (t : List D) : hasV dev (d :: t) = (decide (d.1 = dev) || hasV dev t) := rfl
theorem at1_w (a b dev : Int) (h : True) : CallC P G 84 [dot (a, b), AV.ptr 0 0] [AObj.box [int dev]] (AOut.ret (Am.bool (decide (a = dev)))) [AObj.box [int dev]] := by
  have _ := h
  exact callC_of [] (by kernel_rfl)

theorem at1_c (a b dev : Int) : CallC P G 84 [dot (a, b), .ptr 0 0] [.box [int dev]] (.ret (bool (decide (a = dev)))) [.box [int dev]] := at1_w a b dev trivial

def ixSt (v : List D) (dev : Int) (k : Nat) : St := { env := slots 19 [(0, vec v), (1, .fn (.func 84) [] [.ptr 0 0]), (4, int 0), (6, vec v), (7, int v.length), (8, int k)], H := [.box [int dev]] }

theorem ix_w (v : List D) (dev : Int) (k : Nat) (hv : v.length ≤ 1000000000) (ex : AEx) (r : Int) (h : ((((↑k : Int) < (↑(List.length v) : Int)) → (∃ x2 : D, (v[k]? = some x2) ∧ (((Prod.fst x2 = dev) → (AEx.ret = ex) ∧ (((↑k : Int) : Int) = (r))) ∧ ((¬Prod.fst x2 = dev) → RunL P G none 1 (loopAt P 83 0) { env := slots 19 [(0, AV.sl 2 false (encs v)), (1, AV.fn (Fn.func 84) [] [AV.ptr 0 0]), (4, int 0), (6, AV.sl 2 false (encs v)), (7, int (↑(List.length v) : Int)), (8, int (↑(k + 1) : Int))], H := [AObj.box [int dev]] } ex { env := slots 19 [(4, int r)], H := [AObj.box [int dev]] })))) ∧ ((¬(↑k : Int) < (↑(List.length v) : Int)) → (AEx.exit 0 = ex) ∧ ((0 : Int) = (r))))) : RunL P G none 1 (loopAt P 83 0) (ixSt v dev k) ex { env := slots 19 [(4, int r)], H := [AObj.box [int dev]] } := by
  by_cases c1 : ((↑k : Int) < (↑(List.length v) : Int))
  · have h := h.1 c1
    obtain ⟨x2, o3, h⟩ := h
    have hz0 : (0 : Int) ≤ (↑k : Int) ∧ (encs v)[Int.toNat (↑k : Int)]? = some (enc x2) := (el_nat o3)
    have hz1 := (@Go.Vec.at1_c (Prod.fst x2) (Prod.snd x2) (dev))
    by_cases c4 : (Prod.fst x2 = dev)
    · have h := h.1 c4
      obtain ⟨eX, e1⟩ := h
      exact RunL.to ((show RunL P G none 1 (loopAt P 83 0) (ixSt v dev k) AEx.ret { env := slots 19 [(4, int (↑k : Int))], H := [AObj.box [int dev]] } from loop_exit [kt (decide_eq_true c1), ko (Orc.elem (enc x2)), kp hz0, kc [0] hz1, kt (decide_eq_true c4)] (others 19 [4]) 1 (by kernel_rfl))) eX (SubS.slots ⟨rfl, (Sub.int_eq e1), trivial⟩)
    · have h := h.2 c4
      exact loop_next [kt (decide_eq_true c1), ko (Orc.elem (enc x2)), kp hz0, kc [0] hz1, kf (decide_eq_false c4), kv 18 (show Am.Sub (int (IntKind.wrap IntKind.i64 ((↑k : Int) + 1))) (int (↑(k + 1) : Int)) from (Sub.of_wrap (by omega) (by omega) (by omega)))] (others 19 [0, 1, 4, 6, 7, 8]) 1 h (by kernel_rfl)
  · have h := h.2 c1
    obtain ⟨eX, e1⟩ := h
    exact RunL.to ((show RunL P G none 1 (loopAt P 83 0) (ixSt v dev k) (AEx.exit 0) { env := slots 19 [(4, int 0)], H := [AObj.box [int dev]] } from loop_exit [kf (decide_eq_false c1)] (others 19 [4]) 1 (by kernel_rfl))) eX (SubS.slots ⟨rfl, (Sub.int_eq e1), trivial⟩)

/-- The place of a device, or -1. -/
def ixV (dev : Int) : Int → List D → Int
  | _, [] => -1
  | k, d :: t => if d.1 = dev then k else ixV dev (k + 1) t

theorem ix_loop (v : List D) (dev : Int) (hv : v.length ≤ 1000000000) : ∀ n k, v.length - k = n → k ≤ v.length →
    RunL P G none 1 (loopAt P 83 0) (ixSt v dev k) (if hasV dev (v.drop k) = true then .ret else .exit 0) { env := slots 19 [(4, int (if hasV dev (v.drop k) = true then ixV dev k (v.drop k) else 0))], H := [.box [int dev]] } := by
  intro n
  induction n with
  | zero =>
    intro k hn hk
    have e : v.drop k = [] := List.drop_of_length_le (by omega)
    rw [e]
    exact ix_w v dev k hv _ _ ⟨fun h => absurd h (by omega), fun _ => ⟨rfl, rfl⟩⟩
  | succ n ih =>
    intro k hn hk
    have hlt : k < v.length := by omega
    have e := List.drop_eq_getElem_cons hlt
    refine ix_w v dev k hv _ _ ⟨fun h => ⟨v[k], List.getElem?_eq_getElem hlt, ⟨fun hq => ?_, fun hq => ?_⟩⟩, fun h => absurd hlt (by omega)⟩
    · rw [e, hasV_cons]; simp [ixV, hq]
    · have h1 : hasV dev (v.drop k) = hasV dev (v.drop (k + 1)) := by rw [e, hasV_cons]; simp [hq]
      have h2 : ixV dev k (v.drop k) = ixV dev ((k + 1 : Nat) : Int) (v.drop (k + 1)) := by rw [e]; simp [ixV, hq]
      rw [h1, h2]
      exact ih (k + 1) (by omega) (by omega)

theorem ix_l (v : List D) (dev : Int) (hv : v.length ≤ 1000000000) : RunL P G none 1 (loopAt P 83 0) (ixSt v dev 0) (if hasV dev v = true then .ret else .exit 0) { env := slots 19 [(4, int (if hasV dev v = true then ixV dev 0 v else 0))], H := [.box [int dev]] } :=
  ix_loop v dev hv _ 0 rfl (by omega)

theorem ix_f (v : List D) (dev : Int) (hv : v.length ≤ 1000000000) (h : (((hasV dev v = true) → True) ∧ ((¬hasV dev v = true) → (-1 : Int) = (ixV dev 0 v)))) : CallC P G 83 [vec v, AV.fn (Fn.func 84) [] [AV.ptr 0 0]] [AObj.box [int dev]] (AOut.ret (int (ixV dev 0 v))) [AObj.box [int dev]] := by
  have hz0 : Am.Sub (int (↑(List.length (encs v)) : Int)) (int (↑(List.length v) : Int)) := (Sub.of_eq (by simp only [Go.Vec.encs_length]))
  by_cases c1 : (hasV dev v = true)
  · have h := h.1 c1
    have _ := h
    exact callC_of [kv 7 hz0, kl [2, 3, 5, 9, 10, 11, 12, 13, 14, 15, 16, 17, 18] 1 (show RunL P G none 1 (loopAt P 83 0) { env := slots 19 [(0, AV.sl 2 false (encs v)), (1, AV.fn (Fn.func 84) [] [AV.ptr 0 0]), (4, int 0), (6, AV.sl 2 false (encs v)), (7, int (↑(List.length v) : Int)), (8, int 0)], H := [AObj.box [int dev]] } AEx.ret { env := slots 19 [(4, int (ixV dev 0 v))], H := [AObj.box [int dev]] } from (by have h0 := (@Go.Vec.ix_l (v) (dev) (by omega)); simp only [if_pos c1] at h0; exact h0))] (by kernel_rfl)
  · have h := h.2 c1
    have e1 := h
    exact callC_out (Sub.int_eq e1) [kv 7 hz0, kl [2, 3, 5, 9, 10, 11, 12, 13, 14, 15, 16, 17, 18] 1 (show RunL P G none 1 (loopAt P 83 0) { env := slots 19 [(0, AV.sl 2 false (encs v)), (1, AV.fn (Fn.func 84) [] [AV.ptr 0 0]), (4, int 0), (6, AV.sl 2 false (encs v)), (7, int (↑(List.length v) : Int)), (8, int 0)], H := [AObj.box [int dev]] } (AEx.exit 0) { env := slots 19 [(4, int 0)], H := [AObj.box [int dev]] } from (by have h0 := (@Go.Vec.ix_l (v) (dev) (by omega)); simp only [if_neg c1] at h0; exact h0))] (by kernel_rfl)

theorem ixV_none {dev : Int} : ∀ {v : List D} {k : Int}, hasV dev v = false → ixV dev k v = -1
  | [], _, _ => rfl
  | d :: t, k, h => by
    simp only [hasV, List.any_cons, Bool.or_eq_false_iff, decide_eq_false_iff_not] at h
    rw [ixV, if_neg h.1]
    exact ixV_none (by simpa [hasV] using h.2)
theorem ix_c (v : List D) (dev : Int) (hv : v.length ≤ 1000000000) : CallC P G 83 [vec v, .fn (.func 84) [] [.ptr 0 0]] [.box [int dev]] (.ret (int (ixV dev 0 v))) [.box [int dev]] :=
  ix_f v dev hv ⟨fun _ => trivial, fun h => (ixV_none (by simpa using h)).symm⟩

theorem at_f (v : List D) (dev : Int) (hv : v.length ≤ 1000000000) (h : (((ixV dev 0 v ≥ (0 : Int)) → (∃ x2 : D, ((0 : Int) ≤ ixV dev 0 v ∧ v[Int.toNat (ixV dev 0 v)]? = some x2) ∧ (Prod.snd x2 : Int) = (atV dev v))) ∧ ((¬ixV dev 0 v ≥ (0 : Int)) → (0 : Int) = (atV dev v)))) : CallC P G 61 [vec v, int dev] [] (AOut.ret (int (atV dev v))) [] := by
  have hz0 := (@Go.Vec.ix_c (v) (dev) (by omega))
  by_cases c1 : (ixV dev 0 v ≥ (0 : Int))
  · have h := h.1 c1
    obtain ⟨x2, o3, h⟩ := h
    have e1 := h
    exact callC_out (Sub.int_eq e1) [kc [0] hz0, kt (decide_eq_true c1), ko (Orc.elem (enc x2)), kp (show (0 : Int) ≤ ixV dev 0 v ∧ (encs v)[Int.toNat (ixV dev 0 v)]? = some (enc x2) from (el_int o3))] (by kernel_rfl)
  · have h := h.2 c1
    have e1 := h
    exact callC_out (Sub.int_eq e1) [kc [0] hz0, kf (decide_eq_false c1)] (by kernel_rfl)

theorem ixV_at {dev : Int} : ∀ {v : List D} {k : Nat}, (∃ j d, ixV dev k v = ((k + j : Nat) : Int) ∧ v[j]? = some d ∧ d.2 = atV dev v) ∨ (ixV dev k v = -1 ∧ atV dev v = 0)
  | [], k => .inr ⟨rfl, rfl⟩
  | d :: t, k => by
    by_cases hq : d.1 = dev
    · exact .inl ⟨0, d, by simp [ixV, hq], rfl, by simp [atV, hq]⟩
    · rcases ixV_at (dev := dev) (v := t) (k := k + 1) with ⟨j, d', h1, h2, h3⟩ | ⟨h1, h2⟩
      · exact .inl ⟨j + 1, d', by rw [ixV, if_neg hq]; push_cast at h1 ⊢; rw [h1]; omega, by simpa using h2, by rw [atV, if_neg hq]; exact h3⟩
      · exact .inr ⟨by rw [ixV, if_neg hq]; push_cast at h1; exact h1, by rw [atV, if_neg hq]; exact h2⟩
theorem at_c (v : List D) (dev : Int) (hv : v.length ≤ 1000000000) : CallC P G 61 [vec v, int dev] [] (.ret (int (atV dev v))) [] := by
  refine at_f v dev hv ?_
  rcases ixV_at (dev := dev) (v := v) (k := 0) with ⟨j, d, h1, h2, h3⟩ | ⟨h1, h2⟩
  · have h1 : ixV dev 0 v = (j : Int) := by simpa using h1
    rw [h1]
    exact ⟨fun _ => ⟨d, ⟨by omega, by simpa using h2⟩, h3⟩, fun h => absurd (by omega) h⟩
  · have h1 : ixV dev 0 v = -1 := by simpa using h1
    rw [h1]
    exact ⟨fun h => absurd h (by omega), fun _ => h2.symm⟩

def coversB (v : List D) (d : D) : Bool := decide (d.2 ≥ 1) && decide (d.2 ≤ atV d.1 v)

theorem covers_f (v : List D) (a b : Int) (hv : v.length ≤ 1000000000) (h : (((b ≥ (1 : Int)) → (decide (b ≤ atV a v)) = (coversB v (a, b))) ∧ ((¬b ≥ (1 : Int)) → (false) = (coversB v (a, b))))) : CallC P G 26 [vec v, dot (a, b)] [] (AOut.ret (Am.bool (coversB v (a, b)))) [] := by
  by_cases c1 : (b ≥ (1 : Int))
  · have h := h.1 c1
    have e1 := h
    exact callC_out (Sub.bool_eq e1) [kt (decide_eq_true c1), kc [] (@Go.Vec.at_c (v) (a) (by omega))] (by kernel_rfl)
  · have h := h.2 c1
    have e1 := h
    exact callC_out (Sub.bool_eq e1) [kf (decide_eq_false c1)] (by kernel_rfl)

theorem covers_c (v : List D) (a b : Int) (hv : v.length ≤ 1000000000) : CallC P G 26 [vec v, dot (a, b)] [] (.ret (bool (coversB v (a, b)))) [] :=
  covers_f v a b hv (by simp only [coversB]; exact ⟨fun h => by simp [h], fun h => by simp [h]⟩)
end Go.Vec
