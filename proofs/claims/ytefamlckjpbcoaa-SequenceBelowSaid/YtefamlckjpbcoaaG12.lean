import Derived.Test.YtefamlckjpbcoaaG11
import Derived.KernelRfl
set_option maxRecDepth 100000
set_option linter.unusedSimpArgs false
set_option linter.unusedVariables false
/- SEQUENCE, 1: what is valid; Greater; Few. -/
namespace Go.Sq
open Go Go.Am Go.Proofs Go.Seat

def idB (a b c : Int) : Bool := decide (a ≥ 0) && decide (a < 512) && decide (b ≥ 1) && decide (b ≤ 1048576) && decide (c ≥ 0) && decide (c ≤ 63)
def zeroB (a b c : Int) : Bool := decide (a = 0) && decide (b = 0) && decide (c = 0)
def validB (x : CE) : Bool := idB x.dv x.sq x.at' && (zeroB x.ad x.as' x.aa || idB x.ad x.as' x.aa) && decide (x.tm ≥ 1) && decide (x.tm ≤ 1099511627776) && decide ((x.vl.size : Int) ≤ 4096)

theorem vid_w (a b c : Int) (h : (((a ≥ (0 : Int)) → (((a < (512 : Int)) → (((b ≥ (1 : Int)) → (((b ≤ (1048576 : Int)) → (((c ≥ (0 : Int)) → (decide (c ≤ (63 : Int))) = (idB a b c)) ∧ ((¬c ≥ (0 : Int)) → (false) = (idB a b c)))) ∧ ((¬b ≤ (1048576 : Int)) → (false) = (idB a b c)))) ∧ ((¬b ≥ (1 : Int)) → (false) = (idB a b c)))) ∧ ((¬a < (512 : Int)) → (false) = (idB a b c)))) ∧ ((¬a ≥ (0 : Int)) → (false) = (idB a b c)))) : CallC P G 39 [ida a b c] [] (AOut.ret (Am.bool (idB a b c))) [] := by
  by_cases c1 : (a ≥ (0 : Int))
  · have h := h.1 c1
    by_cases c2 : (a < (512 : Int))
    · have h := h.1 c2
      by_cases c3 : (b ≥ (1 : Int))
      · have h := h.1 c3
        by_cases c4 : (b ≤ (1048576 : Int))
        · have h := h.1 c4
          by_cases c5 : (c ≥ (0 : Int))
          · have h := h.1 c5
            have e1 := h
            exact callC_out (Sub.bool_eq e1) [kt (decide_eq_true c1), kt (decide_eq_true c2), kt (decide_eq_true c3), kt (decide_eq_true c4), kt (decide_eq_true c5)] (by kernel_rfl)
          · have h := h.2 c5
            have e1 := h
            exact callC_out (Sub.bool_eq e1) [kt (decide_eq_true c1), kt (decide_eq_true c2), kt (decide_eq_true c3), kt (decide_eq_true c4), kf (decide_eq_false c5)] (by kernel_rfl)
        · have h := h.2 c4
          have e1 := h
          exact callC_out (Sub.bool_eq e1) [kt (decide_eq_true c1), kt (decide_eq_true c2), kt (decide_eq_true c3), kf (decide_eq_false c4), kf (Eq.refl false)] (by kernel_rfl)
      · have h := h.2 c3
        have e1 := h
        exact callC_out (Sub.bool_eq e1) [kt (decide_eq_true c1), kt (decide_eq_true c2), kf (decide_eq_false c3), kf (Eq.refl false), kf (Eq.refl false)] (by kernel_rfl)
    · have h := h.2 c2
      have e1 := h
      exact callC_out (Sub.bool_eq e1) [kt (decide_eq_true c1), kf (decide_eq_false c2), kf (Eq.refl false), kf (Eq.refl false), kf (Eq.refl false)] (by kernel_rfl)
  · have h := h.2 c1
    have e1 := h
    exact callC_out (Sub.bool_eq e1) [kf (decide_eq_false c1), kf (Eq.refl false), kf (Eq.refl false), kf (Eq.refl false), kf (Eq.refl false)] (by kernel_rfl)

theorem vid_c (a b c : Int) : CallC P G 39 [ida a b c] [] (.ret (bool (idB a b c))) [] := vid_w a b c (by unfold idB; grind)

theorem valid_w (x : CE) (h : ((((idB (CE.dv x) (CE.sq x) (CE.at' x)) = true) → ((((CE.ad x == 0 && (CE.as' x == 0 && CE.aa x == 0)) = true) → (((CE.tm x ≥ (1 : Int)) → (((CE.tm x ≤ (1099511627776 : Int)) → (decide ((↑(ByteArray.size (CE.vl x)) : Int) ≤ (4096 : Int))) = (validB x)) ∧ ((¬CE.tm x ≤ (1099511627776 : Int)) → (false) = (validB x)))) ∧ ((¬CE.tm x ≥ (1 : Int)) → (false) = (validB x)))) ∧ (((CE.ad x == 0 && (CE.as' x == 0 && CE.aa x == 0)) = false) → ((((idB (CE.ad x) (CE.as' x) (CE.aa x)) = true) → (((CE.tm x ≥ (1 : Int)) → (((CE.tm x ≤ (1099511627776 : Int)) → (decide ((↑(ByteArray.size (CE.vl x)) : Int) ≤ (4096 : Int))) = (validB x)) ∧ ((¬CE.tm x ≤ (1099511627776 : Int)) → (false) = (validB x)))) ∧ ((¬CE.tm x ≥ (1 : Int)) → (false) = (validB x)))) ∧ (((idB (CE.ad x) (CE.as' x) (CE.aa x)) = false) → (false) = (validB x)))))) ∧ (((idB (CE.dv x) (CE.sq x) (CE.at' x)) = false) → (false) = (validB x)))) : CallC P G 29 [cel x] [] (AOut.ret (Am.bool (validB x))) [] := by
  have hz0 := (@Go.Sq.vid_c (CE.dv x) (CE.sq x) (CE.at' x))
  have hz1 := (@Go.Sq.vid_c (CE.ad x) (CE.as' x) (CE.aa x))
  rcases Bool.eq_false_or_eq_true ((idB (CE.dv x) (CE.sq x) (CE.at' x))) with c1 | c1
  · have h := h.1 c1
    rcases Bool.eq_false_or_eq_true ((CE.ad x == 0 && (CE.as' x == 0 && CE.aa x == 0))) with c2 | c2
    · have h := h.1 c2
      by_cases c3 : (CE.tm x ≥ (1 : Int))
      · have h := h.1 c3
        by_cases c4 : (CE.tm x ≤ (1099511627776 : Int))
        · have h := h.1 c4
          have e1 := h
          exact callC_out (Sub.bool_eq e1) [kc [] hz0, kt c1, kt c2, kt (Eq.refl true), kt (decide_eq_true c3), kt (decide_eq_true c4)] (by kernel_rfl)
        · have h := h.2 c4
          have e1 := h
          exact callC_out (Sub.bool_eq e1) [kc [] hz0, kt c1, kt c2, kt (Eq.refl true), kt (decide_eq_true c3), kf (decide_eq_false c4)] (by kernel_rfl)
      · have h := h.2 c3
        have e1 := h
        exact callC_out (Sub.bool_eq e1) [kc [] hz0, kt c1, kt c2, kt (Eq.refl true), kf (decide_eq_false c3), kf (Eq.refl false)] (by kernel_rfl)
    · have h := h.2 c2
      rcases Bool.eq_false_or_eq_true ((idB (CE.ad x) (CE.as' x) (CE.aa x))) with c5 | c5
      · have h := h.1 c5
        by_cases c6 : (CE.tm x ≥ (1 : Int))
        · have h := h.1 c6
          by_cases c7 : (CE.tm x ≤ (1099511627776 : Int))
          · have h := h.1 c7
            have e1 := h
            exact callC_out (Sub.bool_eq e1) [kc [] hz0, kt c1, kf c2, kc [] hz1, kt c5, kt (decide_eq_true c6), kt (decide_eq_true c7)] (by kernel_rfl)
          · have h := h.2 c7
            have e1 := h
            exact callC_out (Sub.bool_eq e1) [kc [] hz0, kt c1, kf c2, kc [] hz1, kt c5, kt (decide_eq_true c6), kf (decide_eq_false c7)] (by kernel_rfl)
        · have h := h.2 c6
          have e1 := h
          exact callC_out (Sub.bool_eq e1) [kc [] hz0, kt c1, kf c2, kc [] hz1, kt c5, kf (decide_eq_false c6), kf (Eq.refl false)] (by kernel_rfl)
      · have h := h.2 c5
        have e1 := h
        exact callC_out (Sub.bool_eq e1) [kc [] hz0, kt c1, kf c2, kc [] hz1, kf c5, kf (Eq.refl false), kf (Eq.refl false)] (by kernel_rfl)
  · have h := h.2 c1
    have e1 := h
    exact callC_out (Sub.bool_eq e1) [kc [] hz0, kf c1, kf (Eq.refl false), kf (Eq.refl false), kf (Eq.refl false)] (by kernel_rfl)

theorem valid_c (x : CE) : CallC P G 29 [cel x] [] (.ret (bool (validB x))) [] := valid_w x (by
  simp only [validB, zeroB]; grind)

def gtB (a b : CE) : Bool := decide (a.tm > b.tm) || (decide (a.tm = b.tm) && (decide (a.dv > b.dv) || (decide (a.dv = b.dv) && (decide (a.sq > b.sq) || (decide (a.sq = b.sq) && decide (a.at' > b.at'))))))

theorem gt_w (a b : CE) (h : (((CE.tm a = CE.tm b) → (((CE.dv a = CE.dv b) → (((CE.sq a = CE.sq b) → (decide (CE.at' a > CE.at' b)) = (gtB a b)) ∧ ((¬CE.sq a = CE.sq b) → (decide (CE.sq a > CE.sq b)) = (gtB a b)))) ∧ ((¬CE.dv a = CE.dv b) → (decide (CE.dv a > CE.dv b)) = (gtB a b)))) ∧ ((¬CE.tm a = CE.tm b) → (decide (CE.tm a > CE.tm b)) = (gtB a b)))) : CallC P G 27 [cel a, cel b] [] (AOut.ret (Am.bool (gtB a b))) [] := by
  by_cases c1 : (CE.tm a = CE.tm b)
  · have h := h.1 c1
    have hz0 : (CE.tm a != CE.tm b) = false := (congrArg Bool.not (beq_iff_eq.2 c1))
    by_cases c2 : (CE.dv a = CE.dv b)
    · have h := h.1 c2
      have hz1 : (CE.dv a != CE.dv b) = false := (congrArg Bool.not (beq_iff_eq.2 c2))
      by_cases c3 : (CE.sq a = CE.sq b)
      · have h := h.1 c3
        have e1 := h
        exact callC_out (Sub.bool_eq e1) [kf hz0, kf hz1, kf (show (CE.sq a != CE.sq b) = false from (congrArg Bool.not (beq_iff_eq.2 c3)))] (by kernel_rfl)
      · have h := h.2 c3
        have e1 := h
        exact callC_out (Sub.bool_eq e1) [kf hz0, kf hz1, kt (show (CE.sq a != CE.sq b) = true from (congrArg Bool.not (beq_eq_false_iff_ne.2 c3)))] (by kernel_rfl)
    · have h := h.2 c2
      have e1 := h
      exact callC_out (Sub.bool_eq e1) [kf hz0, kt (show (CE.dv a != CE.dv b) = true from (congrArg Bool.not (beq_eq_false_iff_ne.2 c2)))] (by kernel_rfl)
  · have h := h.2 c1
    have e1 := h
    exact callC_out (Sub.bool_eq e1) [kt (show (CE.tm a != CE.tm b) = true from (congrArg Bool.not (beq_eq_false_iff_ne.2 c1)))] (by kernel_rfl)

theorem gt_c (a b : CE) : CallC P G 27 [cel a, cel b] [] (.ret (bool (gtB a b))) [] := gt_w a b (by
  simp only [gtB]; grind)

theorem few_w (v : List CE) (h : (decide ((↑(List.length v) : Int) ≤ (40 : Int))) = (decide (List.length v ≤ 40))) : CallC P G 12 [ces v] [] (AOut.ret (Am.bool (decide (List.length v ≤ 40)))) [] := by
  have e1 := h
  exact callC_out (Sub.bool_eq e1) [kv 4 (show Am.Sub (int (↑(List.length (encs v)) : Int)) (int (↑(List.length v) : Int)) from (Sub.of_eq (by simp only [Go.Sq.encs_length])))] (by kernel_rfl)

theorem few_c (v : List CE) : CallC P G 12 [ces v] [] (.ret (bool (decide (v.length ≤ 40)))) [] := few_w v (by simp; omega)

end Go.Sq

/- SEQUENCE, 2: Find in both packages; Same. -/
namespace Go.Sq
open Go Go.Am Go.Proofs Go.Seat

def pid (a b c : Int) (x : CE) : Bool := x.dv == a && (x.sq == b && x.at' == c)
def fI (p : CE → Bool) (v : List CE) : Nat → Nat → Option Nat
  | 0, _ => none
  | n + 1, k => match v[k]? with
    | some c => if p c = true then some k else fI p v n (k + 1)
    | none => none
def fX (p : CE → Bool) (v : List CE) : Option Nat := fI p v v.length 0
theorem fI_yes {p : CE → Bool} {v : List CE} {k n : Nat} {c : CE} (h : v[k]? = some c) (hp : p c = true) : fI p v (n + 1) k = some k := by simp [fI, h, hp]
theorem fI_no {p : CE → Bool} {v : List CE} {k n : Nat} {c : CE} (h : v[k]? = some c) (hp : p c = false) : fI p v (n + 1) k = fI p v n (k + 1) := by simp [fI, h, hp]
def fiO : Option Nat → Int × Bool
  | some k => (k, true)
  | none => (0, false)

def rfSt (v : List CE) (a b c : Int) (k : Nat) : St := { env := slots 21 [(0, ces v), (1, ida a b c), (3, .ptr 0 0), (4, int 0), (5, bool false), (6, int k)], H := [.box [int a, int b, int c]] }

theorem rf_w (v : List CE) (a b c : Int) (k : Nat) (hv : v.length ≤ 1000000000) (ex : AEx) (r : Int) (o : Bool) (h : ((((↑k : Int) < (↑(List.length v) : Int)) → (∃ x2 : CE, (v[k]? = some x2) ∧ ((((CE.dv x2 == a && (CE.sq x2 == b && CE.at' x2 == c)) = true) → (AEx.ret = ex) ∧ (((↑k : Int) : Int) = (r)) ∧ ((true) = (o))) ∧ (((CE.dv x2 == a && (CE.sq x2 == b && CE.at' x2 == c)) = false) → RunL P G none 0 (loopAt P 23 0) (St.mk (slots 21 [(0, AV.sl 9 false (encs v)), (1, AV.agg [int a, int b, int c]), (3, AV.ptr 0 0), (4, int 0), (5, Am.bool false), (6, int (↑(k + 1) : Int))]) [AObj.box [int a, int b, int c]] []) ex (St.mk (slots 21 [(4, int r), (5, Am.bool o)]) [AObj.box [int a, int b, int c]] []))))) ∧ ((¬(↑k : Int) < (↑(List.length v) : Int)) → (AEx.exit 0 = ex) ∧ ((0 : Int) = (r)) ∧ ((false) = (o))))) : RunL P G none 0 (loopAt P 23 0) (rfSt v a b c k) ex (St.mk (slots 21 [(4, int r), (5, Am.bool o)]) [AObj.box [int a, int b, int c]] []) := by
  have hz0 : Am.Sub (int (↑(List.length (encs v)) : Int)) (int (↑(List.length v) : Int)) := (Sub.of_eq (by simp only [Go.Sq.encs_length]))
  by_cases c1 : ((↑k : Int) < (↑(List.length v) : Int))
  · have h := h.1 c1
    obtain ⟨x2, o3, h⟩ := h
    have hz1 : (0 : Int) ≤ (↑k : Int) ∧ (encs v)[Int.toNat (↑k : Int)]? = some (enc x2) := (el_nat o3)
    rcases Bool.eq_false_or_eq_true ((CE.dv x2 == a && (CE.sq x2 == b && CE.at' x2 == c))) with c4 | c4
    · have h := h.1 c4
      obtain ⟨eX, e1, e2⟩ := h
      exact RunL.to ((show RunL P G none 0 (loopAt P 23 0) (rfSt v a b c k) AEx.ret (St.mk (slots 21 [(4, int (↑k : Int)), (5, Am.bool true)]) [AObj.box [int a, int b, int c]] []) from loop_exit [kv 9 hz0, kt (decide_eq_true c1), ko (Orc.elem (enc x2)), kp hz1, kt c4] (others 21 [4, 5]) 1 (by kernel_rfl))) eX (SubS.slots ⟨rfl, (Sub.int_eq e1), rfl, (Sub.bool_eq e2), trivial⟩)
    · have h := h.2 c4
      exact loop_next [kv 9 hz0, kt (decide_eq_true c1), ko (Orc.elem (enc x2)), kp hz1, kf c4, kv 12 (show Am.Sub (int (IntKind.wrap IntKind.i64 ((↑k : Int) + 1))) (int (↑(k + 1) : Int)) from (Sub.of_wrap (by omega) (by omega) (by omega)))] (others 21 [0, 1, 3, 4, 5, 6]) 1 h (by kernel_rfl)
  · have h := h.2 c1
    obtain ⟨eX, e1, e2⟩ := h
    exact RunL.to ((show RunL P G none 0 (loopAt P 23 0) (rfSt v a b c k) (AEx.exit 0) (St.mk (slots 21 [(4, int 0), (5, Am.bool false)]) [AObj.box [int a, int b, int c]] []) from loop_exit [kv 9 hz0, kf (decide_eq_false c1)] (others 21 [4, 5]) 1 (by kernel_rfl))) eX (SubS.slots ⟨rfl, (Sub.int_eq e1), rfl, (Sub.bool_eq e2), trivial⟩)

theorem rf_loop (v : List CE) (a b c : Int) (hv : v.length ≤ 1000000000) : ∀ n k, v.length - k = n → k ≤ v.length → RunL P G none 0 (loopAt P 23 0) (rfSt v a b c k) (if (fI (pid a b c) v n k).isSome = true then .ret else .exit 0)
    { env := slots 21 [(4, int (fiO (fI (pid a b c) v n k)).1), (5, bool (fiO (fI (pid a b c) v n k)).2)], H := [.box [int a, int b, int c]] } := by
  intro n
  induction n with
  | zero => intro k hn hk; exact rf_w v a b c k hv _ _ _ ⟨fun h => absurd h (by omega), fun _ => ⟨rfl, rfl, rfl⟩⟩
  | succ n ih =>
    intro k hn hk
    have hlt : k < v.length := by omega
    have hx : v[k]? = some v[k] := List.getElem?_eq_getElem hlt
    refine rf_w v a b c k hv _ _ _ ⟨fun h => ⟨v[k], hx, ⟨fun hq => ?_, fun hq => ?_⟩⟩, fun h => absurd hlt (by omega)⟩
    · rw [fI_yes (p := pid a b c) hx hq]; exact ⟨rfl, rfl, rfl⟩
    · rw [fI_no (p := pid a b c) hx hq]; exact ih (k + 1) (by omega) (by omega)

theorem rf_run (v : List CE) (a b c : Int) (hv : v.length ≤ 1000000000) : RunL P G none 0 (loopAt P 23 0) (rfSt v a b c 0) (if (fX (pid a b c) v).isSome = true then .ret else .exit 0)
    { env := slots 21 [(4, int (fiO (fX (pid a b c) v)).1), (5, bool (fiO (fX (pid a b c) v)).2)], H := [.box [int a, int b, int c]] } := rf_loop v a b c hv v.length 0 (by omega) (by omega)

theorem fp_w (x : CE) (a b c : Int) (h : True) : CallC P G 38 [cel x, AV.ptr 0 0] [AObj.box [int a, int b, int c]] (AOut.ret (Am.bool (pid a b c x))) [AObj.box [int a, int b, int c]] := by
  have _ := h
  exact callC_of [] (by kernel_rfl)

def ixSt (v : List CE) (a b c : Int) (k : Nat) : St := { env := slots 19 [(0, ces v), (1, .fn (.func 38) [] [.ptr 0 0]), (4, int 0), (6, ces v), (7, int v.length), (8, int k)], H := [.box [int a, int b, int c]] }

theorem ix_w (v : List CE) (a b c : Int) (k : Nat) (hv : v.length ≤ 1000000000) (hp : ∀ x : CE, CallC P G 38 [cel x, .ptr 0 0] [.box [int a, int b, int c]] (.ret (bool (pid a b c x))) [.box [int a, int b, int c]]) (ex : AEx) (r : Int) (h : ((((↑k : Int) < (↑(List.length v) : Int)) → (∃ x2 : CE, (v[k]? = some x2) ∧ ((((pid a b c x2) = true) → (AEx.ret = ex) ∧ (((↑k : Int) : Int) = (r))) ∧ (((pid a b c x2) = false) → RunL P G none 1 (loopAt P 37 0) (St.mk (slots 19 [(0, AV.sl 9 false (encs v)), (1, AV.fn (Fn.func 38) [] [AV.ptr 0 0]), (4, int 0), (6, AV.sl 9 false (encs v)), (7, int (↑(List.length v) : Int)), (8, int (↑(k + 1) : Int))]) [AObj.box [int a, int b, int c]] []) ex (St.mk (slots 19 [(4, int r)]) [AObj.box [int a, int b, int c]] []))))) ∧ ((¬(↑k : Int) < (↑(List.length v) : Int)) → (AEx.exit 0 = ex) ∧ ((0 : Int) = (r))))) : RunL P G none 1 (loopAt P 37 0) (ixSt v a b c k) ex (St.mk (slots 19 [(4, int r)]) [AObj.box [int a, int b, int c]] []) := by
  by_cases c1 : ((↑k : Int) < (↑(List.length v) : Int))
  · have h := h.1 c1
    obtain ⟨x2, o3, h⟩ := h
    have hz0 : (0 : Int) ≤ (↑k : Int) ∧ (encs v)[Int.toNat (↑k : Int)]? = some (enc x2) := (el_nat o3)
    have hz1 := (@hp (x2))
    rcases Bool.eq_false_or_eq_true ((pid a b c x2)) with c4 | c4
    · have h := h.1 c4
      obtain ⟨eX, e1⟩ := h
      exact RunL.to ((show RunL P G none 1 (loopAt P 37 0) (ixSt v a b c k) AEx.ret (St.mk (slots 19 [(4, int (↑k : Int))]) [AObj.box [int a, int b, int c]] []) from loop_exit [kt (decide_eq_true c1), ko (Orc.elem (enc x2)), kp hz0, kc [0] hz1, kt c4] (others 19 [4]) 1 (by kernel_rfl))) eX (SubS.slots ⟨rfl, (Sub.int_eq e1), trivial⟩)
    · have h := h.2 c4
      exact loop_next [kt (decide_eq_true c1), ko (Orc.elem (enc x2)), kp hz0, kc [0] hz1, kf c4, kv 18 (show Am.Sub (int (IntKind.wrap IntKind.i64 ((↑k : Int) + 1))) (int (↑(k + 1) : Int)) from (Sub.of_wrap (by omega) (by omega) (by omega)))] (others 19 [0, 1, 4, 6, 7, 8]) 1 h (by kernel_rfl)
  · have h := h.2 c1
    obtain ⟨eX, e1⟩ := h
    exact RunL.to ((show RunL P G none 1 (loopAt P 37 0) (ixSt v a b c k) (AEx.exit 0) (St.mk (slots 19 [(4, int 0)]) [AObj.box [int a, int b, int c]] []) from loop_exit [kf (decide_eq_false c1)] (others 19 [4]) 1 (by kernel_rfl))) eX (SubS.slots ⟨rfl, (Sub.int_eq e1), trivial⟩)

def ixV : Option Nat → Int
  | some k => k
  | none => -1
theorem ix_loop (v : List CE) (a b c : Int) (hv : v.length ≤ 1000000000) : ∀ n k, v.length - k = n → k ≤ v.length → RunL P G none 1 (loopAt P 37 0) (ixSt v a b c k) (if (fI (pid a b c) v n k).isSome = true then .ret else .exit 0)
    { env := slots 19 [(4, int (match fI (pid a b c) v n k with | some j => (j : Int) | none => 0))], H := [.box [int a, int b, int c]] } := by
  have hp : ∀ x : CE, CallC P G 38 [cel x, .ptr 0 0] [.box [int a, int b, int c]] (.ret (bool (pid a b c x))) [.box [int a, int b, int c]] := fun x => fp_w x a b c trivial
  intro n
  induction n with
  | zero => intro k hn hk; exact ix_w v a b c k hv hp _ _ ⟨fun h => absurd h (by omega), fun _ => ⟨rfl, rfl⟩⟩
  | succ n ih =>
    intro k hn hk
    have hlt : k < v.length := by omega
    have hx : v[k]? = some v[k] := List.getElem?_eq_getElem hlt
    refine ix_w v a b c k hv hp _ _ ⟨fun h => ⟨v[k], hx, ⟨fun hq => ?_, fun hq => ?_⟩⟩, fun h => absurd hlt (by omega)⟩
    · rw [fI_yes (p := pid a b c) hx hq]; exact ⟨rfl, rfl⟩
    · rw [fI_no (p := pid a b c) hx hq]; exact ih (k + 1) (by omega) (by omega)
theorem ix_run (v : List CE) (a b c : Int) (hv : v.length ≤ 1000000000) : RunL P G none 1 (loopAt P 37 0) (ixSt v a b c 0) (if (fX (pid a b c) v).isSome = true then .ret else .exit 0)
    { env := slots 19 [(4, int (match fX (pid a b c) v with | some j => (j : Int) | none => 0))], H := [.box [int a, int b, int c]] } := ix_loop v a b c hv v.length 0 (by omega) (by omega)

theorem ixf_w (v : List CE) (a b c : Int) (r : Int) (hv : v.length ≤ 1000000000) (h : (((Option.isSome (fX (pid a b c) v) = true) → (match fX (pid a b c) v with
| some j => (↑j : Int)
| none => 0 : Int) = (r)) ∧ ((¬Option.isSome (fX (pid a b c) v) = true) → (-1 : Int) = (r)))) : CallC P G 37 [ces v, AV.fn (Fn.func 38) [] [AV.ptr 0 0]] [AObj.box [int a, int b, int c]] (AOut.ret (int r)) [AObj.box [int a, int b, int c]] := by
  have hz0 : Am.Sub (int (↑(List.length (encs v)) : Int)) (int (↑(List.length v) : Int)) := (Sub.of_eq (by simp only [Go.Sq.encs_length]))
  by_cases c1 : (Option.isSome (fX (pid a b c) v) = true)
  · have h := h.1 c1
    have e1 := h
    exact callC_out (Sub.int_eq e1) [kv 7 hz0, kl [2, 3, 5, 9, 10, 11, 12, 13, 14, 15, 16, 17, 18] 1 (show RunL P G none 1 (loopAt P 37 0) (St.mk (slots 19 [(0, AV.sl 9 false (encs v)), (1, AV.fn (Fn.func 38) [] [AV.ptr 0 0]), (4, int 0), (6, AV.sl 9 false (encs v)), (7, int (↑(List.length v) : Int)), (8, int 0)]) [AObj.box [int a, int b, int c]] []) AEx.ret
  (St.mk
    (slots 19
      [(4,
          int
            (match fX (pid a b c) v with
            | some j => (↑j : Int)
            | none => 0))])
    [AObj.box [int a, int b, int c]] []) from (by have h0 := (@Go.Sq.ix_run (v) (a) (b) (c) (by omega)); simp only [if_pos c1] at h0; exact h0))] (by kernel_rfl)
  · have h := h.2 c1
    have e1 := h
    exact callC_out (Sub.int_eq e1) [kv 7 hz0, kl [2, 3, 5, 9, 10, 11, 12, 13, 14, 15, 16, 17, 18] 1 (show RunL P G none 1 (loopAt P 37 0) (St.mk (slots 19 [(0, AV.sl 9 false (encs v)), (1, AV.fn (Fn.func 38) [] [AV.ptr 0 0]), (4, int 0), (6, AV.sl 9 false (encs v)), (7, int (↑(List.length v) : Int)), (8, int 0)]) [AObj.box [int a, int b, int c]] []) (AEx.exit 0)
  (St.mk
    (slots 19
      [(4,
          int
            (match fX (pid a b c) v with
            | some j => (↑j : Int)
            | none => 0))])
    [AObj.box [int a, int b, int c]] []) from (by have h0 := (@Go.Sq.ix_run (v) (a) (b) (c) (by omega)); simp only [if_neg c1] at h0; exact h0))] (by kernel_rfl)

theorem ixf_c (v : List CE) (a b c : Int) (hv : v.length ≤ 1000000000) : CallC P G 37 [ces v, .fn (.func 38) [] [.ptr 0 0]] [.box [int a, int b, int c]] (.ret (int (ixV (fX (pid a b c) v)))) [.box [int a, int b, int c]] := by
  refine ixf_w v a b c _ hv ?_
  cases h : fX (pid a b c) v <;> simp [ixV]

theorem find_w (v : List CE) (a b c : Int) (r : Int) (o : Bool) (n : Int) (hv : v.length ≤ 1000000000) (hx : CallC P G 37 [ces v, .fn (.func 38) [] [.ptr 0 0]] [.box [int a, int b, int c]] (.ret (int n)) [.box [int a, int b, int c]]) (h : ((if (0 : Int) > n then 0 else n : Int) = (r)) ∧ ((decide (n ≥ (0 : Int))) = (o))) : CallC P G 22 [ces v, ida a b c] [] (AOut.ret (AV.tup [int r, Am.bool o])) [] := by
  obtain ⟨e1, e2⟩ := h
  exact CallC.out ((show CallC P G 22 [ces v, ida a b c] [] (AOut.ret (AV.tup [int (if (0 : Int) > n then 0 else n), Am.bool (decide (n ≥ (0 : Int)))])) [] from callC_of [kc [0] (@hx )] (by kernel_rfl))) (Sub.tups ⟨(Sub.int_eq e1), (Sub.bool_eq e2), trivial⟩)

theorem find_c (v : List CE) (a b c : Int) (hv : v.length ≤ 1000000000) : CallC P G 22 [ces v, ida a b c] [] (.ret (.tup [int (fiO (fX (pid a b c) v)).1, bool (fiO (fX (pid a b c) v)).2])) [] := by
  refine find_w v a b c _ _ _ hv (ixf_c v a b c hv) ?_
  cases h : fX (pid a b c) v with
  | none => simp [ixV, fiO]
  | some j => simp [ixV, fiO]; omega

end Go.Sq

/- SEQUENCE, 3: what is equal; Visible; Clone. -/
namespace Go.Sq
open Go Go.Am Go.Proofs Go.Seat

theorem ce_eq (a b : CE) : ((a.dv == b.dv && (a.sq == b.sq && (a.at' == b.at' && (a.ad == b.ad && (a.as' == b.as' && (a.aa == b.aa && (a.tm == b.tm && (a.vl == b.vl && a.gn == b.gn)))))))) = true) ↔ a = b := by
  rw [ba_beq]
  cases a; cases b
  simp [CE.mk.injEq]

def rsSt (a b : List CE) (k : Nat) : St := { env := slots 26 [(0, ces a), (1, ces b), (4, bool false), (5, int k)], H := [] }

theorem rs_w (a b : List CE) (k : Nat) (hl : a.length = b.length) (hv : b.length ≤ 1000000000) (ex : AEx) (o : Bool) (h : ((((↑k : Int) < (↑(List.length a) : Int)) → (∃ x2 : CE, (a[k]? = some x2) ∧ (∃ x4 : CE, (b[k]? = some x4) ∧ ((((CE.dv x2 == CE.dv x4 && (CE.sq x2 == CE.sq x4 && (CE.at' x2 == CE.at' x4 && (CE.ad x2 == CE.ad x4 && (CE.as' x2 == CE.as' x4 && (CE.aa x2 == CE.aa x4 && (CE.tm x2 == CE.tm x4 && (CE.vl x2 == CE.vl x4 && CE.gn x2 == CE.gn x4)))))))) = true) → RunL P G none 0 (loopAt P 15 0) (St.mk (slots 26 [(0, AV.sl 9 false (encs a)), (1, AV.sl 9 false (encs b)), (4, Am.bool false), (5, int (↑(k + 1) : Int))]) [] []) ex (St.mk (slots 26 [(4, Am.bool o)]) [] [])) ∧ (((CE.dv x2 == CE.dv x4 && (CE.sq x2 == CE.sq x4 && (CE.at' x2 == CE.at' x4 && (CE.ad x2 == CE.ad x4 && (CE.as' x2 == CE.as' x4 && (CE.aa x2 == CE.aa x4 && (CE.tm x2 == CE.tm x4 && (CE.vl x2 == CE.vl x4 && CE.gn x2 == CE.gn x4)))))))) = false) → (AEx.ret = ex) ∧ ((false) = (o))))))) ∧ ((¬(↑k : Int) < (↑(List.length a) : Int)) → (AEx.exit 0 = ex) ∧ ((false) = (o))))) : RunL P G none 0 (loopAt P 15 0) (rsSt a b k) ex (St.mk (slots 26 [(4, Am.bool o)]) [] []) := by
  have hz0 : Am.Sub (int (↑(List.length (encs a)) : Int)) (int (↑(List.length a) : Int)) := (Sub.of_eq (by simp only [Go.Sq.encs_length]))
  by_cases c1 : ((↑k : Int) < (↑(List.length a) : Int))
  · have h := h.1 c1
    obtain ⟨x2, o3, h⟩ := h
    have hz1 : (0 : Int) ≤ (↑k : Int) ∧ (encs a)[Int.toNat (↑k : Int)]? = some (enc x2) := (el_nat o3)
    obtain ⟨x4, o5, h⟩ := h
    have hz2 : (0 : Int) ≤ (↑k : Int) ∧ (encs b)[Int.toNat (↑k : Int)]? = some (enc x4) := (el_nat o5)
    rcases Bool.eq_false_or_eq_true ((CE.dv x2 == CE.dv x4 && (CE.sq x2 == CE.sq x4 && (CE.at' x2 == CE.at' x4 && (CE.ad x2 == CE.ad x4 && (CE.as' x2 == CE.as' x4 && (CE.aa x2 == CE.aa x4 && (CE.tm x2 == CE.tm x4 && (CE.vl x2 == CE.vl x4 && CE.gn x2 == CE.gn x4))))))))) with c6 | c6
    · have h := h.1 c6
      exact loop_next [kv 13 hz0, kt (decide_eq_true c1), ko (Orc.elem (enc x2)), ko (Orc.elem (enc x4)), kp hz1, kp hz2, kf (show (!(CE.dv x2 == CE.dv x4 && (CE.sq x2 == CE.sq x4 && (CE.at' x2 == CE.at' x4 && (CE.ad x2 == CE.ad x4 && (CE.as' x2 == CE.as' x4 && (CE.aa x2 == CE.aa x4 && (CE.tm x2 == CE.tm x4 && (CE.vl x2 == CE.vl x4 && CE.gn x2 == CE.gn x4))))))))) = false from (congrArg Bool.not (c6))), kv 16 (show Am.Sub (int (IntKind.wrap IntKind.i64 ((↑k : Int) + 1))) (int (↑(k + 1) : Int)) from (Sub.of_wrap (by omega) (by omega) (by omega)))] (others 26 [0, 1, 4, 5]) 0 h (by kernel_rfl)
    · have h := h.2 c6
      obtain ⟨eX, e1⟩ := h
      exact RunL.to ((show RunL P G none 0 (loopAt P 15 0) (rsSt a b k) AEx.ret (St.mk (slots 26 [(4, Am.bool false)]) [] []) from loop_exit [kv 13 hz0, kt (decide_eq_true c1), ko (Orc.elem (enc x2)), ko (Orc.elem (enc x4)), kp hz1, kp hz2, kt (show (!(CE.dv x2 == CE.dv x4 && (CE.sq x2 == CE.sq x4 && (CE.at' x2 == CE.at' x4 && (CE.ad x2 == CE.ad x4 && (CE.as' x2 == CE.as' x4 && (CE.aa x2 == CE.aa x4 && (CE.tm x2 == CE.tm x4 && (CE.vl x2 == CE.vl x4 && CE.gn x2 == CE.gn x4))))))))) = true from (congrArg Bool.not (c6)))] (others 26 [4]) 0 (by kernel_rfl))) eX (SubS.slots ⟨rfl, (Sub.bool_eq e1), trivial⟩)
  · have h := h.2 c1
    obtain ⟨eX, e1⟩ := h
    exact RunL.to ((show RunL P G none 0 (loopAt P 15 0) (rsSt a b k) (AEx.exit 0) (St.mk (slots 26 [(4, Am.bool false)]) [] []) from loop_exit [kv 13 hz0, kf (decide_eq_false c1)] (others 26 [4]) 0 (by kernel_rfl))) eX (SubS.slots ⟨rfl, (Sub.bool_eq e1), trivial⟩)

def eqSt (a b : List CE) (k : Nat) : St := { env := slots 26 [(0, ces a), (1, ces b), (4, bool false), (11, ces a), (12, int a.length), (13, int k)], H := [] }

theorem eq_w (a b : List CE) (k : Nat) (hl : a.length = b.length) (hv : b.length ≤ 1000000000) (ex : AEx) (o : Bool) (h : ((((↑k : Int) < (↑(List.length a) : Int)) → (∃ x2 : CE, (a[k]? = some x2) ∧ (∃ x4 : CE, (b[k]? = some x4) ∧ ((((CE.dv x2 == CE.dv x4 && (CE.sq x2 == CE.sq x4 && (CE.at' x2 == CE.at' x4 && (CE.ad x2 == CE.ad x4 && (CE.as' x2 == CE.as' x4 && (CE.aa x2 == CE.aa x4 && (CE.tm x2 == CE.tm x4 && (CE.vl x2 == CE.vl x4 && CE.gn x2 == CE.gn x4)))))))) = true) → RunL P G none 0 (loopAt P 35 0) (St.mk (slots 26 [(0, AV.sl 9 false (encs a)), (1, AV.sl 9 false (encs b)), (4, Am.bool false), (11, AV.sl 9 false (encs a)), (12, int (↑(List.length a) : Int)), (13, int (↑(k + 1) : Int))]) [] []) ex (St.mk (slots 26 [(4, Am.bool o)]) [] [])) ∧ (((CE.dv x2 == CE.dv x4 && (CE.sq x2 == CE.sq x4 && (CE.at' x2 == CE.at' x4 && (CE.ad x2 == CE.ad x4 && (CE.as' x2 == CE.as' x4 && (CE.aa x2 == CE.aa x4 && (CE.tm x2 == CE.tm x4 && (CE.vl x2 == CE.vl x4 && CE.gn x2 == CE.gn x4)))))))) = false) → (AEx.ret = ex) ∧ ((false) = (o))))))) ∧ ((¬(↑k : Int) < (↑(List.length a) : Int)) → (AEx.exit 0 = ex) ∧ ((false) = (o))))) : RunL P G none 0 (loopAt P 35 0) (eqSt a b k) ex (St.mk (slots 26 [(4, Am.bool o)]) [] []) := by
  by_cases c1 : ((↑k : Int) < (↑(List.length a) : Int))
  · have h := h.1 c1
    obtain ⟨x2, o3, h⟩ := h
    have hz0 : (0 : Int) ≤ (↑k : Int) ∧ (encs a)[Int.toNat (↑k : Int)]? = some (enc x2) := (el_nat o3)
    obtain ⟨x4, o5, h⟩ := h
    have hz1 : (0 : Int) ≤ (↑k : Int) ∧ (encs b)[Int.toNat (↑k : Int)]? = some (enc x4) := (el_nat o5)
    rcases Bool.eq_false_or_eq_true ((CE.dv x2 == CE.dv x4 && (CE.sq x2 == CE.sq x4 && (CE.at' x2 == CE.at' x4 && (CE.ad x2 == CE.ad x4 && (CE.as' x2 == CE.as' x4 && (CE.aa x2 == CE.aa x4 && (CE.tm x2 == CE.tm x4 && (CE.vl x2 == CE.vl x4 && CE.gn x2 == CE.gn x4))))))))) with c6 | c6
    · have h := h.1 c6
      exact loop_next [kt (decide_eq_true c1), ko (Orc.elem (enc x2)), ko (Orc.elem (enc x4)), kp hz0, kp hz1, kf (show (!(CE.dv x2 == CE.dv x4 && (CE.sq x2 == CE.sq x4 && (CE.at' x2 == CE.at' x4 && (CE.ad x2 == CE.ad x4 && (CE.as' x2 == CE.as' x4 && (CE.aa x2 == CE.aa x4 && (CE.tm x2 == CE.tm x4 && (CE.vl x2 == CE.vl x4 && CE.gn x2 == CE.gn x4))))))))) = false from (congrArg Bool.not (c6))), kv 25 (show Am.Sub (int (IntKind.wrap IntKind.i64 ((↑k : Int) + 1))) (int (↑(k + 1) : Int)) from (Sub.of_wrap (by omega) (by omega) (by omega)))] (others 26 [0, 1, 4, 11, 12, 13]) 0 h (by kernel_rfl)
    · have h := h.2 c6
      obtain ⟨eX, e1⟩ := h
      exact RunL.to ((show RunL P G none 0 (loopAt P 35 0) (eqSt a b k) AEx.ret (St.mk (slots 26 [(4, Am.bool false)]) [] []) from loop_exit [kt (decide_eq_true c1), ko (Orc.elem (enc x2)), ko (Orc.elem (enc x4)), kp hz0, kp hz1, kt (show (!(CE.dv x2 == CE.dv x4 && (CE.sq x2 == CE.sq x4 && (CE.at' x2 == CE.at' x4 && (CE.ad x2 == CE.ad x4 && (CE.as' x2 == CE.as' x4 && (CE.aa x2 == CE.aa x4 && (CE.tm x2 == CE.tm x4 && (CE.vl x2 == CE.vl x4 && CE.gn x2 == CE.gn x4))))))))) = true from (congrArg Bool.not (c6)))] (others 26 [4]) 0 (by kernel_rfl))) eX (SubS.slots ⟨rfl, (Sub.bool_eq e1), trivial⟩)
  · have h := h.2 c1
    obtain ⟨eX, e1⟩ := h
    exact RunL.to ((show RunL P G none 0 (loopAt P 35 0) (eqSt a b k) (AEx.exit 0) (St.mk (slots 26 [(4, Am.bool false)]) [] []) from loop_exit [kf (decide_eq_false c1)] (others 26 [4]) 0 (by kernel_rfl))) eX (SubS.slots ⟨rfl, (Sub.bool_eq e1), trivial⟩)

def eqN {α : Type} [DecidableEq α] (a b : List α) : Nat → Nat → Bool
  | 0, _ => true
  | n + 1, k => match a[k]?, b[k]? with
    | some x, some y => decide (x = y) && eqN a b n (k + 1)
    | _, _ => true
theorem eqN_iff {α : Type} [DecidableEq α] {a b : List α} (hl : a.length = b.length) : ∀ n k, a.length - k = n → k ≤ a.length → (eqN a b n k = true ↔ a.drop k = b.drop k)
  | 0, k, hn, hk => by
    have h1 : a.drop k = [] := List.drop_eq_nil_of_le (by omega)
    have h2 : b.drop k = [] := List.drop_eq_nil_of_le (by omega)
    simp [eqN, h1, h2]
  | n + 1, k, hn, hk => by
    have ha : k < a.length := by omega
    have hb : k < b.length := by omega
    rw [eqN, List.getElem?_eq_getElem ha, List.getElem?_eq_getElem hb, List.drop_eq_getElem_cons ha, List.drop_eq_getElem_cons hb]
    simp only [Bool.and_eq_true, decide_eq_true_eq, List.cons.injEq, eqN_iff hl n (k + 1) (by omega) (by omega)]
theorem eqN_all {α : Type} [DecidableEq α] {a b : List α} (hl : a.length = b.length) : eqN a b a.length 0 = decide (a = b) := by
  rw [Bool.eq_iff_iff, eqN_iff hl a.length 0 (by omega) (by omega)]; simp
theorem eqN_step {α : Type} [DecidableEq α] {a b : List α} {n k : Nat} {x y : α} (ha : a[k]? = some x) (hb : b[k]? = some y) : eqN a b (n + 1) k = (decide (x = y) && eqN a b n (k + 1)) := by rw [eqN, ha, hb]

theorem rs_loop (a b : List CE) (hl : a.length = b.length) (hv : b.length ≤ 1000000000) : ∀ n k, a.length - k = n → k ≤ a.length → RunL P G none 0 (loopAt P 15 0) (rsSt a b k) (if eqN a b n k = true then .exit 0 else .ret) { env := slots 26 [(4, bool false)], H := [] } := by
  intro n
  induction n with
  | zero => intro k hn hk; exact rs_w a b k hl hv _ _ ⟨fun h => absurd h (by omega), fun _ => ⟨rfl, rfl⟩⟩
  | succ n ih =>
    intro k hn hk
    have hlt : k < a.length := by omega
    have hx : a[k]? = some a[k] := List.getElem?_eq_getElem hlt
    have hy : b[k]? = some (b[k]'(by omega)) := List.getElem?_eq_getElem (by omega)
    refine rs_w a b k hl hv _ _ ⟨fun h => ⟨a[k], hx, b[k]'(by omega), hy, ⟨fun hq => ?_, fun hq => ?_⟩⟩, fun h => absurd hlt (by omega)⟩
    · rw [eqN_step hx hy, decide_eq_true ((ce_eq _ _).1 hq), Bool.true_and]; exact ih (k + 1) (by omega) (by omega)
    · rw [eqN_step hx hy, decide_eq_false (fun e => by rw [(ce_eq _ _).2 e] at hq; cases hq)]; exact ⟨rfl, rfl⟩
theorem rs_run (a b : List CE) (hl : a.length = b.length) (hv : b.length ≤ 1000000000) : RunL P G none 0 (loopAt P 15 0) (rsSt a b 0) (if a = b then .exit 0 else .ret) { env := slots 26 [(4, bool false)], H := [] } := by
  have := rs_loop a b hl hv a.length 0 (by omega) (by omega)
  rw [eqN_all hl] at this
  simpa using this

theorem eq_loop (a b : List CE) (hl : a.length = b.length) (hv : b.length ≤ 1000000000) : ∀ n k, a.length - k = n → k ≤ a.length → RunL P G none 0 (loopAt P 35 0) (eqSt a b k) (if eqN a b n k = true then .exit 0 else .ret) { env := slots 26 [(4, bool false)], H := [] } := by
  intro n
  induction n with
  | zero => intro k hn hk; exact eq_w a b k hl hv _ _ ⟨fun h => absurd h (by omega), fun _ => ⟨rfl, rfl⟩⟩
  | succ n ih =>
    intro k hn hk
    have hlt : k < a.length := by omega
    have hx : a[k]? = some a[k] := List.getElem?_eq_getElem hlt
    have hy : b[k]? = some (b[k]'(by omega)) := List.getElem?_eq_getElem (by omega)
    refine eq_w a b k hl hv _ _ ⟨fun h => ⟨a[k], hx, b[k]'(by omega), hy, ⟨fun hq => ?_, fun hq => ?_⟩⟩, fun h => absurd hlt (by omega)⟩
    · rw [eqN_step hx hy, decide_eq_true ((ce_eq _ _).1 hq), Bool.true_and]; exact ih (k + 1) (by omega) (by omega)
    · rw [eqN_step hx hy, decide_eq_false (fun e => by rw [(ce_eq _ _).2 e] at hq; cases hq)]; exact ⟨rfl, rfl⟩
theorem eq_run (a b : List CE) (hl : a.length = b.length) (hv : b.length ≤ 1000000000) : RunL P G none 0 (loopAt P 35 0) (eqSt a b 0) (if a = b then .exit 0 else .ret) { env := slots 26 [(4, bool false)], H := [] } := by
  have := eq_loop a b hl hv a.length 0 (by omega) (by omega)
  rw [eqN_all hl] at this
  simpa using this

theorem rsame_w (a b : List CE) (hv : b.length ≤ 1000000000) (o : Bool) (h : ((((↑(List.length a) : Int) = (↑(List.length b) : Int)) → (((a = b) → (true) = (o)) ∧ ((¬a = b) → (false) = (o)))) ∧ ((¬(↑(List.length a) : Int) = (↑(List.length b) : Int)) → (false) = (o)))) : CallC P G 15 [ces a, ces b] [] (AOut.ret (Am.bool o)) [] := by
  have hz0 : Am.Sub (int (↑(List.length (encs a)) : Int)) (int (↑(List.length a) : Int)) := (Sub.of_eq (by simp only [Go.Sq.encs_length]))
  have hz1 : Am.Sub (int (↑(List.length (encs b)) : Int)) (int (↑(List.length b) : Int)) := (Sub.of_eq (by simp only [Go.Sq.encs_length]))
  by_cases c1 : ((↑(List.length a) : Int) = (↑(List.length b) : Int))
  · have h := h.1 c1
    have hz2 : ((↑(List.length a) : Int) != (↑(List.length b) : Int)) = false := (congrArg Bool.not (beq_iff_eq.2 c1))
    by_cases c2 : (a = b)
    · have h := h.1 c2
      have e1 := h
      exact callC_out (Sub.bool_eq e1) [kv 7 hz0, kv 9 hz1, kf hz2, kl [2, 3, 6, 7, 8, 9, 10, 11, 12, 13, 14, 15, 16, 17, 18, 19, 20, 21, 22, 23, 24, 25] 0 (show RunL P G none 0 (loopAt P 15 0) (St.mk (slots 26 [(0, AV.sl 9 false (encs a)), (1, AV.sl 9 false (encs b)), (4, Am.bool false), (5, int 0)]) [] []) (AEx.exit 0) (St.mk (slots 26 [(4, Am.bool false)]) [] []) from (by have h0 := (@Go.Sq.rs_run (a) (b) (by omega) (by omega)); simp only [if_pos c2] at h0; exact h0))] (by kernel_rfl)
    · have h := h.2 c2
      have e1 := h
      exact callC_out (Sub.bool_eq e1) [kv 7 hz0, kv 9 hz1, kf hz2, kl [2, 3, 6, 7, 8, 9, 10, 11, 12, 13, 14, 15, 16, 17, 18, 19, 20, 21, 22, 23, 24, 25] 0 (show RunL P G none 0 (loopAt P 15 0) (St.mk (slots 26 [(0, AV.sl 9 false (encs a)), (1, AV.sl 9 false (encs b)), (4, Am.bool false), (5, int 0)]) [] []) AEx.ret (St.mk (slots 26 [(4, Am.bool false)]) [] []) from (by have h0 := (@Go.Sq.rs_run (a) (b) (by omega) (by omega)); simp only [if_neg c2] at h0; exact h0))] (by kernel_rfl)
  · have h := h.2 c1
    have e1 := h
    exact callC_out (Sub.bool_eq e1) [kv 7 hz0, kv 9 hz1, kt (show ((↑(List.length a) : Int) != (↑(List.length b) : Int)) = true from (congrArg Bool.not (beq_eq_false_iff_ne.2 c1)))] (by kernel_rfl)

theorem rsame_c (a b : List CE) (ha : a.length ≤ 1000000000) (hv : b.length ≤ 1000000000) : CallC P G 15 [ces a, ces b] [] (.ret (bool (decide (a = b)))) [] := rsame_w a b hv _ (by
  by_cases h : a = b
  · subst h; simp
  · simp [h]
  )

def vi0 (v : List CE) (k : Nat) : St := { env := slots 21 [(2, nilS), (5, ces v), (6, int v.length), (7, int k)], H := [] }
def vi1 (v : List CE) (k : Nat) (x : CE) (l : List ByteArray) : St := { env := slots 21 [(2, .own 1 (l.length - 1) 0 l.length), (5, ces v), (6, int v.length), (7, int k)], H := [.box (enc x), .arr (l.length - 1) 1 false (sts l)] }

theorem vi0_w (v : List CE) (k : Nat) (hv : v.length ≤ 1000000000) (ex : AEx) (s' : St) (h : ((((↑k : Int) < (↑(List.length v) : Int)) → (∃ x2 : CE, (v[k]? = some x2) ∧ ((((CE.gn x2) = true) → RunL P G none 0 (loopAt P 25 0) (St.mk (slots 21 [(2, nilS), (5, AV.sl 9 false (encs v)), (6, int (↑(List.length v) : Int)), (7, int (↑(k + 1) : Int))]) [] []) ex s') ∧ (((CE.gn x2) = false) → RunL P G none 0 (loopAt P 25 0) (St.mk (slots 21 [(2, AV.own 1 0 0 (List.length [CE.vl x2])), (5, AV.sl 9 false (encs v)), (6, int (↑(List.length v) : Int)), (7, int (↑(k + 1) : Int))]) [AObj.box [int (CE.dv x2), int (CE.sq x2), int (CE.at' x2), int (CE.ad x2), int (CE.as' x2), int (CE.aa x2), int (CE.tm x2), str (CE.vl x2), Am.bool (CE.gn x2)], AObj.arr 0 1 false (sts [CE.vl x2])] []) ex s')))) ∧ ((¬(↑k : Int) < (↑(List.length v) : Int)) → (AEx.exit 0 = ex) ∧ (St.mk (slots 21 [(2, nilS)]) [] [] = s')))) : RunL P G none 0 (loopAt P 25 0) (vi0 v k) ex s' := by
  by_cases c1 : ((↑k : Int) < (↑(List.length v) : Int))
  · have h := h.1 c1
    obtain ⟨x2, o3, h⟩ := h
    have hz0 : (0 : Int) ≤ (↑k : Int) ∧ (encs v)[Int.toNat (↑k : Int)]? = some (enc x2) := (el_nat o3)
    rcases Bool.eq_false_or_eq_true ((CE.gn x2)) with c4 | c4
    · have h := h.1 c4
      exact loop_next [kt (decide_eq_true c1), ko (Orc.elem (enc x2)), kp hz0, kf (show (!CE.gn x2) = false from (congrArg Bool.not (c4))), kv 19 (show Am.Sub (int (IntKind.wrap IntKind.i64 ((↑k : Int) + 1))) (int (↑(k + 1) : Int)) from (Sub.of_wrap (by omega) (by omega) (by omega)))] (others 21 [2, 5, 6, 7]) 0 h (by kernel_rfl)
    · have h := h.2 c4
      exact loop_next [kt (decide_eq_true c1), ko (Orc.elem (enc x2)), kp hz0, kt (show (!CE.gn x2) = true from (congrArg Bool.not (c4))), kp (show [[str (CE.vl x2)]] ≠ [] from (by simp)), kp (show 16 ≤ 140737488355328 from (by omega)), kv 19 (show Am.Sub (int (IntKind.wrap IntKind.i64 ((↑k : Int) + 1))) (int (↑(k + 1) : Int)) from (Sub.of_wrap (by omega) (by omega) (by omega)))] (others 21 [2, 5, 6, 7]) 2 h (by kernel_rfl)
  · have h := h.2 c1
    obtain ⟨eX, eS⟩ := h
    exact RunL.to ((show RunL P G none 0 (loopAt P 25 0) (vi0 v k) (AEx.exit 0) (St.mk (slots 21 [(2, nilS)]) [] []) from loop_exit [kf (decide_eq_false c1)] (others 21 [2]) 0 (by kernel_rfl))) eX (SubS.of_eq eS)

theorem vi1_w (v : List CE) (k : Nat) (x : CE) (l : List ByteArray) (hv : v.length ≤ 1000000000) (hl : l.length ≤ 1000000000) (ex : AEx) (s' : St) (h : ((((↑k : Int) < (↑(List.length v) : Int)) → (∃ x2 : CE, (v[k]? = some x2) ∧ ((((CE.gn x2) = true) → RunL P G none 0 (loopAt P 25 0) (St.mk (slots 21 [(2, AV.own 1 (List.length l - 1) 0 (List.length l)), (5, AV.sl 9 false (encs v)), (6, int (↑(List.length v) : Int)), (7, int (↑(k + 1) : Int))]) [AObj.box [int (CE.dv x), int (CE.sq x), int (CE.at' x), int (CE.ad x), int (CE.as' x), int (CE.aa x), int (CE.tm x), str (CE.vl x), Am.bool (CE.gn x)], AObj.arr (List.length l - 1) 1 false (sts l)] []) ex s') ∧ (((CE.gn x2) = false) → RunL P G none 0 (loopAt P 25 0) (St.mk (slots 21 [(2, AV.own 1 (List.length l - 1 + 1) 0 (List.length (l ++ [CE.vl x2]))), (5, AV.sl 9 false (encs v)), (6, int (↑(List.length v) : Int)), (7, int (↑(k + 1) : Int))]) [AObj.box [int (CE.dv x), int (CE.sq x), int (CE.at' x), int (CE.ad x), int (CE.as' x), int (CE.aa x), int (CE.tm x), str (CE.vl x), Am.bool (CE.gn x)], AObj.arr (List.length l - 1 + 1) 1 false (sts (l ++ [CE.vl x2]))] []) ex s')))) ∧ ((¬(↑k : Int) < (↑(List.length v) : Int)) → (AEx.exit 0 = ex) ∧ (St.mk (slots 21 [(2, AV.own 1 (List.length l - 1) 0 (List.length l))]) [AObj.box [int (CE.dv x), int (CE.sq x), int (CE.at' x), int (CE.ad x), int (CE.as' x), int (CE.aa x), int (CE.tm x), str (CE.vl x), Am.bool (CE.gn x)], AObj.arr (List.length l - 1) 1 false (sts l)] [] = s')))) : RunL P G none 0 (loopAt P 25 0) (vi1 v k x l) ex s' := by
  by_cases c1 : ((↑k : Int) < (↑(List.length v) : Int))
  · have h := h.1 c1
    obtain ⟨x2, o3, h⟩ := h
    have hz0 : (0 : Int) ≤ (↑k : Int) ∧ (encs v)[Int.toNat (↑k : Int)]? = some (enc x2) := (el_nat o3)
    rcases Bool.eq_false_or_eq_true ((CE.gn x2)) with c4 | c4
    · have h := h.1 c4
      exact loop_next [kt (decide_eq_true c1), ko (Orc.elem (enc x2)), kp hz0, kf (show (!CE.gn x2) = false from (congrArg Bool.not (c4))), kv 19 (show Am.Sub (int (IntKind.wrap IntKind.i64 ((↑k : Int) + 1))) (int (↑(k + 1) : Int)) from (Sub.of_wrap (by omega) (by omega) (by omega))), kp (show ∀ (x : List AV), x ∈ sts l → AV.idsInL [] x = true from (Go.Sq.sts_ids _))] (others 21 [2, 5, 6, 7]) 2 h (by kernel_rfl)
    · have h := h.2 c4
      exact loop_next [kt (decide_eq_true c1), ko (Orc.elem (enc x2)), kp hz0, kt (show (!CE.gn x2) = true from (congrArg Bool.not (c4))), ko (Orc.hp (some 18) (AV.own 1 (List.length l - 1 + 1) 0 (List.length (l ++ [CE.vl x2]))) [AObj.box [int (CE.dv x), int (CE.sq x), int (CE.at' x), int (CE.ad x), int (CE.as' x), int (CE.aa x), int (CE.tm x), str (CE.vl x), Am.bool (CE.gn x)], AObj.arr (List.length l - 1 + 1) 1 false (sts (l ++ [CE.vl x2])), AObj.box [int (CE.dv x2), int (CE.sq x2), int (CE.at' x2), int (CE.ad x2), int (CE.as' x2), int (CE.aa x2), int (CE.tm x2), str (CE.vl x2), Am.bool (CE.gn x2)]]), kp (show Am.Sub (AV.own 1 (List.length l - 1 + 1) 0 (List.length l + 1)) (AV.own 1 (List.length l - 1 + 1) 0 (List.length (l ++ [CE.vl x2]))) from (Sub.of_eq (by simp [Go.Sq.sts_length, Go.Sq.sts_ids]))), kp (show Am.HSub [AObj.box [int (CE.dv x), int (CE.sq x), int (CE.at' x), int (CE.ad x), int (CE.as' x), int (CE.aa x), int (CE.tm x), str (CE.vl x), Am.bool (CE.gn x)], AObj.arr (List.length l - 1 + 1) 1 false (sts l ++ [[str (CE.vl x2)]]), AObj.box [int (CE.dv x2), int (CE.sq x2), int (CE.at' x2), int (CE.ad x2), int (CE.as' x2), int (CE.aa x2), int (CE.tm x2), str (CE.vl x2), Am.bool (CE.gn x2)]] [AObj.box [int (CE.dv x), int (CE.sq x), int (CE.at' x), int (CE.ad x), int (CE.as' x), int (CE.aa x), int (CE.tm x), str (CE.vl x), Am.bool (CE.gn x)], AObj.arr (List.length l - 1 + 1) 1 false (sts (l ++ [CE.vl x2])), AObj.box [int (CE.dv x2), int (CE.sq x2), int (CE.at' x2), int (CE.ad x2), int (CE.as' x2), int (CE.aa x2), int (CE.tm x2), str (CE.vl x2), Am.bool (CE.gn x2)]] from (⟨.inl rfl, .inl (by simp only [Go.Sq.sts_append, Go.Sq.sts_one]), .inl rfl, trivial⟩)), kp (show List.length l - 1 = List.length l - 1 from (rfl)), kp (show List.length l = List.length (sts l) from ((Go.Sq.sts_length _).symm)), kp (show (List.length l + 1) * 16 ≤ 140737488355328 from (by omega)), kv 19 (show Am.Sub (int (IntKind.wrap IntKind.i64 ((↑k : Int) + 1))) (int (↑(k + 1) : Int)) from (Sub.of_wrap (by omega) (by omega) (by omega))), kp (show ∀ (x : List AV), x ∈ sts (l ++ [CE.vl x2]) → AV.idsInL [] x = true from (Go.Sq.sts_ids _))] (others 21 [2, 5, 6, 7]) 2 h (by kernel_rfl)
  · have h := h.2 c1
    obtain ⟨eX, eS⟩ := h
    exact RunL.to ((show RunL P G none 0 (loopAt P 25 0) (vi1 v k x l) (AEx.exit 0) (St.mk (slots 21 [(2, AV.own 1 (List.length l - 1) 0 (List.length l))]) [AObj.box [int (CE.dv x), int (CE.sq x), int (CE.at' x), int (CE.ad x), int (CE.as' x), int (CE.aa x), int (CE.tm x), str (CE.vl x), Am.bool (CE.gn x)], AObj.arr (List.length l - 1) 1 false (sts l)] []) from loop_exit [kf (decide_eq_false c1)] (others 21 [2]) 2 (by kernel_rfl))) eX (SubS.of_eq eS)

end Go.Sq

/- SEQUENCE, 4: Visible, SameValues, Equal, Clone: contracts. -/
namespace Go.Sq
open Go Go.Am Go.Proofs Go.Seat

def vis (v : List CE) : List ByteArray := (v.filter fun c => !c.gn).map CE.vl
theorem vis_cons (c : CE) (v : List CE) : vis (c :: v) = (if c.gn = true then [] else [c.vl]) ++ vis v := by
  cases h : c.gn <;> simp [vis, h]
theorem vis_len (v : List CE) : (vis v).length ≤ v.length := by
  rw [vis, List.length_map]; exact List.length_filter_le _ _
def viF (x : CE) (t : List ByteArray) : St := { env := slots 21 [(2, if t = [] then nilS else .own 1 (t.length - 1) 0 t.length)], H := if t = [] then [] else [.box (enc x), .arr (t.length - 1) 1 false (sts t)] }
theorem vi_loop1 (v : List CE) (x : CE) (hv : v.length ≤ 10000000) : ∀ n k (l : List ByteArray), v.length - k = n → l ≠ [] → l.length ≤ k → k ≤ v.length → RunL P G none 0 (loopAt P 25 0) (vi1 v k x l) (.exit 0) (viF x (l ++ vis (v.drop k))) := by
  intro n
  induction n with
  | zero =>
    intro k l hn hl hlk hk
    refine vi1_w v k x l (by omega) (by omega) _ _ ⟨fun h => absurd h (by omega), fun _ => ⟨rfl, ?_⟩⟩
    rw [List.drop_eq_nil_of_le (by omega)]
    simp [viF, vis, hl, enc]
  | succ n ih =>
    intro k l hn hl hlk hk
    have hlt : k < v.length := by omega
    have hx : v[k]? = some v[k] := List.getElem?_eq_getElem hlt
    rw [List.drop_eq_getElem_cons hlt, vis_cons]
    refine vi1_w v k x l (by omega) (by omega) _ _ ⟨fun h => ⟨v[k], hx, ⟨fun hq => ?_, fun hq => ?_⟩⟩, fun h => absurd hlt (by omega)⟩
    · rw [if_pos hq, List.nil_append]; exact ih (k + 1) l (by omega) hl (by omega) (by omega)
    · rw [if_neg (by rw [hq]; decide), ← List.append_assoc]
      have e : l.length - 1 + 1 = (l ++ [v[k].vl]).length - 1 := by
        have := List.length_pos_iff.2 hl
        rw [List.length_append, List.length_singleton]; omega
      rw [e]
      exact ih (k + 1) (l ++ [v[k].vl]) (by omega) (by simp) (by rw [List.length_append, List.length_singleton]; omega) (by omega)
theorem vi_loop0 (v : List CE) (hv : v.length ≤ 10000000) : ∀ n k, v.length - k = n → k ≤ v.length → ∃ x, RunL P G none 0 (loopAt P 25 0) (vi0 v k) (.exit 0) (viF x (vis (v.drop k))) := by
  intro n
  induction n with
  | zero =>
    intro k hn hk
    refine ⟨⟨0, 0, 0, 0, 0, 0, 0, .empty, false⟩, vi0_w v k (by omega) _ _ ⟨fun h => absurd h (by omega), fun _ => ⟨rfl, ?_⟩⟩⟩
    rw [List.drop_eq_nil_of_le (by omega)]
    simp [viF, vis]
  | succ n ih =>
    intro k hn hk
    have hlt : k < v.length := by omega
    have hx : v[k]? = some v[k] := List.getElem?_eq_getElem hlt
    rw [List.drop_eq_getElem_cons hlt, vis_cons]
    cases hg : v[k].gn with
    | true =>
      obtain ⟨x, h⟩ := ih (k + 1) (by omega) (by omega)
      exact ⟨x, vi0_w v k (by omega) _ _ ⟨fun _ => ⟨v[k], hx, ⟨fun _ => h, fun hq => absurd (hg.symm.trans hq) (by decide)⟩⟩, fun h => absurd hlt (by omega)⟩⟩
    | false =>
      refine ⟨v[k], vi0_w v k (by omega) _ _ ⟨fun _ => ⟨v[k], hx, ⟨fun hq => absurd (hg.symm.trans hq) (by decide), fun _ => ?_⟩⟩, fun h => absurd hlt (by omega)⟩⟩
      rw [if_neg (by decide)]
      by_cases hk0 : k = 0
      · exact vi_loop1 v v[k] hv n (k + 1) [v[k].vl] (by omega) (by simp) (by simp) (by omega)
      · exact vi_loop1 v v[k] hv n (k + 1) [v[k].vl] (by omega) (by simp) (by simp) (by omega)

theorem vis_w (v : List CE) (x : CE) (t : List ByteArray) (hv : v.length ≤ 10000000) (ht : t.length ≤ 10000000) (hL : RunL P G none 0 (loopAt P 25 0) (vi0 v 0) (.exit 0) { env := slots 21 [(2, if t = [] then nilS else .own 1 (t.length - 1) 0 t.length)], H := if t = [] then [] else [.box (enc x), .arr (t.length - 1) 1 false (sts t)] }) (h : (((t = []) → ([]) = (t)) ∧ ((¬t = []) → True))) : CallC P G 25 [ces v] [] (AOut.ret (strs t)) [] := by
  have hz0 : Am.Sub (int (↑(List.length (encs v)) : Int)) (int (↑(List.length v) : Int)) := (Sub.of_eq (by simp only [Go.Sq.encs_length]))
  by_cases c1 : (t = [])
  · have h := h.1 c1
    have e1 := h
    exact CallC.out ((show CallC P G 25 [ces v] [] (AOut.ret nilS) [] from callC_of [kv 6 hz0, kl [0, 1, 3, 4, 8, 9, 10, 11, 12, 13, 14, 15, 16, 17, 18, 19, 20] 0 (show RunL P G none 0 (loopAt P 25 0) (St.mk (slots 21 [(2, nilS), (5, AV.sl 9 false (encs v)), (6, int (↑(List.length v) : Int)), (7, int 0)]) [] []) (AEx.exit 0) (St.mk (slots 21 [(2, nilS)]) [] []) from (by have h0 := (@hL ); simp only [if_pos c1] at h0; exact h0))] (by kernel_rfl))) (Sub.nil_eq (congrArg (List.map st1) e1))
  · have h := h.2 c1
    have _ := h
    exact callC_of [kv 6 hz0, kl [0, 1, 3, 4, 8, 9, 10, 11, 12, 13, 14, 15, 16, 17, 18, 19, 20] 0 (show RunL P G none 0 (loopAt P 25 0) (St.mk (slots 21 [(2, nilS), (5, AV.sl 9 false (encs v)), (6, int (↑(List.length v) : Int)), (7, int 0)]) [] []) (AEx.exit 0) (St.mk (slots 21 [(2, AV.own 1 (List.length t - 1) 0 (List.length t))]) [AObj.box [int (CE.dv x), int (CE.sq x), int (CE.at' x), int (CE.ad x), int (CE.as' x), int (CE.aa x), int (CE.tm x), str (CE.vl x), Am.bool (CE.gn x)], AObj.arr (List.length t - 1) 1 false (sts t)] []) from (by have h0 := (@hL ); simp only [if_neg c1] at h0; exact h0)), ko (Orc.frz (sts t)), kp (show List.length t - 1 = List.length t - 1 from (rfl)), kp (show List.take (List.length t) (List.drop 0 (sts t)) = sts t from (Go.Sq.sts_all _)), kp (show List.length (sts t) = List.length t from (Go.Sq.sts_length _)), kp (show ∀ (c : List AV), c ∈ sts t → List.all c AV.pureB = true from (Go.Sq.sts_pure _))] (by kernel_rfl)

theorem vis_c (v : List CE) (hv : v.length ≤ 10000000) : CallC P G 25 [ces v] [] (.ret (strs (vis v))) [] := by
  obtain ⟨x, h⟩ := vi_loop0 v hv v.length 0 (by omega) (by omega)
  rw [List.drop_zero] at h
  refine vis_w v x (vis v) hv (by have := vis_len v; omega) h ?_
  exact ⟨fun h => h.symm, fun _ => trivial⟩

theorem eql_w (a b : List CE) (ha : a.length ≤ 1000000000) (hv : b.length ≤ 1000000000) (o : Bool) (h : ((((↑(List.length a) : Int) = (↑(List.length b) : Int)) → (((a = b) → (true) = (o)) ∧ ((¬a = b) → (false) = (o)))) ∧ ((¬(↑(List.length a) : Int) = (↑(List.length b) : Int)) → (false) = (o)))) : CallC P G 35 [ces a, ces b] [] (AOut.ret (Am.bool o)) [] := by
  have hz0 : Am.Sub (int (↑(List.length (encs a)) : Int)) (int (↑(List.length a) : Int)) := (Sub.of_eq (by simp only [Go.Sq.encs_length]))
  have hz1 : Am.Sub (int (↑(List.length (encs b)) : Int)) (int (↑(List.length b) : Int)) := (Sub.of_eq (by simp only [Go.Sq.encs_length]))
  by_cases c1 : ((↑(List.length a) : Int) = (↑(List.length b) : Int))
  · have h := h.1 c1
    have hz2 : ((↑(List.length a) : Int) != (↑(List.length b) : Int)) = false := (congrArg Bool.not (beq_iff_eq.2 c1))
    by_cases c2 : (a = b)
    · have h := h.1 c2
      have e1 := h
      exact callC_out (Sub.bool_eq e1) [kv 7 hz0, kv 9 hz1, kf hz2, kv 12 hz0, kl [2, 3, 5, 6, 7, 8, 9, 10, 14, 15, 16, 17, 18, 19, 20, 21, 22, 23, 24, 25] 0 (show RunL P G none 0 (loopAt P 35 0) (St.mk (slots 26 [(0, AV.sl 9 false (encs a)), (1, AV.sl 9 false (encs b)), (4, Am.bool false), (11, AV.sl 9 false (encs a)), (12, int (↑(List.length a) : Int)), (13, int 0)]) [] []) (AEx.exit 0) (St.mk (slots 26 [(4, Am.bool false)]) [] []) from (by have h0 := (@Go.Sq.eq_run (a) (b) (by omega) (by omega)); simp only [if_pos c2] at h0; exact h0))] (by kernel_rfl)
    · have h := h.2 c2
      have e1 := h
      exact callC_out (Sub.bool_eq e1) [kv 7 hz0, kv 9 hz1, kf hz2, kv 12 hz0, kl [2, 3, 5, 6, 7, 8, 9, 10, 14, 15, 16, 17, 18, 19, 20, 21, 22, 23, 24, 25] 0 (show RunL P G none 0 (loopAt P 35 0) (St.mk (slots 26 [(0, AV.sl 9 false (encs a)), (1, AV.sl 9 false (encs b)), (4, Am.bool false), (11, AV.sl 9 false (encs a)), (12, int (↑(List.length a) : Int)), (13, int 0)]) [] []) AEx.ret (St.mk (slots 26 [(4, Am.bool false)]) [] []) from (by have h0 := (@Go.Sq.eq_run (a) (b) (by omega) (by omega)); simp only [if_neg c2] at h0; exact h0))] (by kernel_rfl)
  · have h := h.2 c1
    have e1 := h
    exact callC_out (Sub.bool_eq e1) [kv 7 hz0, kv 9 hz1, kt (show ((↑(List.length a) : Int) != (↑(List.length b) : Int)) = true from (congrArg Bool.not (beq_eq_false_iff_ne.2 c1)))] (by kernel_rfl)

theorem eql_c (a b : List CE) (ha : a.length ≤ 1000000000) (hv : b.length ≤ 1000000000) : CallC P G 35 [ces a, ces b] [] (.ret (bool (decide (a = b)))) [] := eql_w a b ha hv _ (by
  by_cases h : a = b
  · subst h; simp
  · simp [h])

end Go.Sq

/- SEQUENCE, 5: Clone; rooted. -/
namespace Go.Sq
open Go Go.Am Go.Proofs Go.Seat

/-! Does the chain of parents end? -/
def rootN (l : List CE) : Nat → CE → Bool
  | 0, _ => false
  | n + 1, c => if (c.ad == 0 && (c.as' == 0 && c.aa == 0)) = true then true else match fX (pid c.ad c.as' c.aa) l with
    | some j => match l[j]? with
      | some y => rootN l n y
      | none => false
    | none => false
def rootB (l : List CE) (c : CE) : Bool := rootN l (l.length + 1) c
theorem fI_get {p : CE → Bool} {v : List CE} : ∀ {n k j : Nat}, fI p v n k = some j → ∃ y, v[j]? = some y ∧ p y = true
  | 0, _, _, h => by cases h
  | n + 1, k, j, h => by
    rw [fI] at h
    split at h
    · rename_i c hc
      split at h
      · rename_i hp; cases h; exact ⟨c, hc, hp⟩
      · exact fI_get h
    · cases h
theorem fX_get {p : CE → Bool} {v : List CE} {j : Nat} (h : fX p v = some j) : ∃ y, v[j]? = some y ∧ p y = true := fI_get h
end Go.Sq

/- SEQUENCE, 6: Forms; the loops of the reference's below. -/
namespace Go.Sq
open Go Go.Am Go.Proofs Go.Seat

def clash (x y : CE) : Bool := (x.dv == y.dv && (x.sq == y.sq && x.at' == y.at')) || (decide (x.dv = y.dv) && decide (x.sq = y.sq) && !decide (x.tm = y.tm))
def clN (l : List CE) (x : CE) : Nat → Nat → Bool
  | 0, _ => false
  | n + 1, i => match l[i]? with
    | some y => clash x y || clN l x n (i + 1)
    | none => false
def okC (l : List CE) (k : Nat) (x : CE) : Bool := validB x && !clN l x k 0
def foN (l : List CE) : Nat → Nat → Bool
  | 0, _ => true
  | n + 1, k => match l[k]? with
    | some x => okC l k x && foN l n (k + 1)
    | none => true
def roN (l : List CE) : Nat → Nat → Bool
  | 0, _ => true
  | n + 1, k => match l[k]? with
    | some x => rootB l x && roN l n (k + 1)
    | none => true
def formsB (l : List CE) : Bool := foN l l.length 0 && roN l l.length 0

end Go.Sq

/- SEQUENCE, 7: the loops of the reference's below. -/
namespace Go.Sq
open Go Go.Am Go.Proofs Go.Seat

end Go.Sq

/- SEQUENCE, 8: the reference's below. -/
namespace Go.Sq
open Go Go.Am Go.Proofs Go.Seat

def ins (x : CE) (ch : List CE) : List CE := ch.takeWhile (fun y => gtB y x) ++ x :: ch.dropWhile (fun y => gtB y x)
theorem ins_len (x : CE) (ch : List CE) : (ins x ch).length = ch.length + 1 := by
  have := congrArg List.length (List.takeWhile_append_dropWhile (p := fun y => gtB y x) (l := ch))
  simp only [ins, List.length_append, List.length_cons] at this ⊢
  omega
def isKid (a b c : Int) (x : CE) : Bool := x.ad == a && (x.as' == b && x.aa == c)
def kidsN (a b c : Int) : List CE → List CE → List CE
  | [], acc => acc
  | x :: r, acc => kidsN a b c r (if isKid a b c x = true then ins x acc else acc)
theorem kidsN_len (a b c : Int) : ∀ r acc, (kidsN a b c r acc).length ≤ r.length + acc.length
  | [], acc => by simp [kidsN]
  | x :: r, acc => by
    rw [kidsN]
    have := kidsN_len a b c r (if isKid a b c x = true then ins x acc else acc)
    split at this <;> (try rw [ins_len] at this) <;> simp only [List.length_cons] <;> rename_i h <;> simp only [h, if_true, if_false, Bool.false_eq_true] at this ⊢ <;> (try rw [ins_len] at this) <;> omega
def kids (l : List CE) (a b c : Int) : List CE := kidsN a b c l []
theorem kids_len (l : List CE) (a b c : Int) : (kids l a b c).length ≤ l.length := by have := kidsN_len a b c l []; simpa [kids] using this

def belowF (l : List CE) : Nat → Int → Int → Int → List CE
  | 0, _, _, _ => []
  | n + 1, a, b, c => (kids l a b c).flatMap fun y => y :: belowF l n y.dv y.sq y.at'
def Deep (l : List CE) : Nat → Int → Int → Int → Prop
  | 0, _, _, _ => False
  | n + 1, a, b, c => (belowF l (n + 1) a b c).length ≤ 1000000 ∧ ∀ y ∈ kids l a b c, Deep l n y.dv y.sq y.at'
theorem Deep.len {l : List CE} : ∀ {n : Nat} {a b c : Int}, Deep l n a b c → (belowF l n a b c).length ≤ 1000000
  | 0, _, _, _, h => h.elim
  | _ + 1, _, _, _, h => h.1
theorem Deep.kid {l : List CE} {n : Nat} {a b c : Int} (h : Deep l (n + 1) a b c) {y : CE} (hy : y ∈ kids l a b c) : Deep l n y.dv y.sq y.at' := h.2 y hy

end Go.Sq

/- SEQUENCE, plain law 1: sisters in their order. -/
namespace Go.Sq
open Go Go.Am

theorem gt_iff {a b : CE} : gtB a b = true ↔ a.tm > b.tm ∨ a.tm = b.tm ∧ (a.dv > b.dv ∨ a.dv = b.dv ∧ (a.sq > b.sq ∨ a.sq = b.sq ∧ a.at' > b.at')) := by
  simp [gtB]
theorem gt_irrefl (a : CE) : gtB a a = false := by
  rw [Bool.eq_false_iff]; intro h; rw [gt_iff] at h; omega
theorem gt_trans {a b c : CE} (h : gtB a b = true) (k : gtB b c = true) : gtB a c = true := by
  rw [gt_iff] at *; omega
theorem gt_total {a b : CE} (h : a.id ≠ b.id) : gtB a b = true ∨ gtB b a = true := by
  simp only [gt_iff]
  by_cases h1 : a.tm = b.tm <;> by_cases h2 : a.dv = b.dv <;> by_cases h3 : a.sq = b.sq <;> by_cases h4 : a.at' = b.at'
  all_goals first | omega | exact absurd (by simp [CE.id, h2, h3, h4]) h

abbrev Desc (l : List CE) : Prop := l.Pairwise fun a b => gtB a b = true
theorem Desc.ext : ∀ {l m : List CE}, Desc l → Desc m → (∀ x, x ∈ l ↔ x ∈ m) → l = m
  | [], [], _, _, _ => rfl
  | [], y :: m, _, _, h => absurd ((h y).2 (by simp)) (by simp)
  | x :: l, [], _, _, h => absurd ((h x).1 (by simp)) (by simp)
  | x :: l, y :: m, hl, hm, h => by
    obtain ⟨h1, h2⟩ := List.pairwise_cons.1 hl
    obtain ⟨k1, k2⟩ := List.pairwise_cons.1 hm
    have exy : x = y := by
      rcases List.mem_cons.1 ((h x).1 (by simp)) with e | e
      · exact e
      · rcases List.mem_cons.1 ((h y).2 (by simp)) with e' | e'
        · exact e'.symm
        · have := gt_trans (h1 y e') (k1 x e)
          rw [gt_irrefl] at this; cases this
    subst exy
    have nx : x ∉ l := fun hx => by have := h1 x hx; rw [gt_irrefl] at this; cases this
    have nm : x ∉ m := fun hx => by have := k1 x hx; rw [gt_irrefl] at this; cases this
    rw [Desc.ext h2 k2 fun z => ?_]
    constructor
    · intro hz
      rcases List.mem_cons.1 ((h z).1 (List.mem_cons_of_mem _ hz)) with e | e
      · subst e; exact absurd hz nx
      · exact e
    · intro hz
      rcases List.mem_cons.1 ((h z).2 (List.mem_cons_of_mem _ hz)) with e | e
      · subst e; exact absurd hz nm
      · exact e
theorem Desc.nodup {l : List CE} (h : Desc l) : l.Nodup := h.imp fun {a b} hab e => by subst e; rw [gt_irrefl] at hab; cases hab

theorem mem_ins {x y : CE} {ch : List CE} : y ∈ ins x ch ↔ y = x ∨ y ∈ ch := by
  have := List.takeWhile_append_dropWhile (p := fun y => gtB y x) (l := ch)
  constructor
  · intro h
    rcases List.mem_append.1 h with h | h
    · exact .inr (by rw [← this]; exact List.mem_append_left _ h)
    · rcases List.mem_cons.1 h with h | h
      · exact .inl h
      · exact .inr (by rw [← this]; exact List.mem_append_right _ h)
  · rintro (rfl | h)
    · exact List.mem_append_right _ (by simp)
    · rw [← this] at h
      rcases List.mem_append.1 h with h | h
      · exact List.mem_append_left _ h
      · exact List.mem_append_right _ (List.mem_cons_of_mem _ h)
theorem ins_desc {x : CE} : ∀ {ch : List CE}, Desc ch → (∀ y ∈ ch, y.id ≠ x.id) → Desc (ins x ch)
  | [], _, _ => by simp [ins]
  | y :: ch, h, hd => by
    obtain ⟨h1, h2⟩ := List.pairwise_cons.1 h
    cases hg : gtB y x with
    | true =>
      have e : ins x (y :: ch) = y :: ins x ch := by simp [ins, hg]
      rw [e]
      refine List.pairwise_cons.2 ⟨fun z hz => ?_, ins_desc h2 fun z hz => hd z (List.mem_cons_of_mem _ hz)⟩
      rcases mem_ins.1 hz with rfl | hz
      · exact hg
      · exact h1 z hz
    | false =>
      have e : ins x (y :: ch) = x :: y :: ch := by simp [ins, hg]
      rw [e]
      have hxy : gtB x y = true := (gt_total (hd y (by simp))).resolve_left (by rw [hg]; decide)
      refine List.pairwise_cons.2 ⟨fun z hz => ?_, h⟩
      rcases List.mem_cons.1 hz with rfl | hz
      · exact hxy
      · exact gt_trans hxy (h1 z hz)

abbrev Ids (l : List CE) : Prop := l.Pairwise fun a b => a.id ≠ b.id
theorem kidsN_spec (a b c : Int) : ∀ r acc, Ids r → (∀ x ∈ r, ∀ y ∈ acc, y.id ≠ x.id) → Desc acc → Desc (kidsN a b c r acc) ∧ ∀ y, y ∈ kidsN a b c r acc ↔ y ∈ acc ∨ (y ∈ r ∧ isKid a b c y = true)
  | [], acc, _, _, h => ⟨h, fun y => by simp [kidsN]⟩
  | x :: r, acc, hi, hd, h => by
    obtain ⟨i1, i2⟩ := List.pairwise_cons.1 hi
    rw [kidsN]
    cases hk : isKid a b c x with
    | true =>
      rw [if_pos rfl]
      obtain ⟨k1, k2⟩ := kidsN_spec a b c r (ins x acc) i2 (fun z hz y hy => by
        rcases mem_ins.1 hy with rfl | hy
        · exact i1 z hz
        · exact hd z (List.mem_cons_of_mem _ hz) y hy) (ins_desc h fun y hy => hd x (by simp) y hy)
      refine ⟨k1, fun y => ?_⟩
      rw [k2, mem_ins, List.mem_cons]
      constructor
      · rintro ((rfl | h) | ⟨h, h'⟩)
        · exact .inr ⟨.inl rfl, hk⟩
        · exact .inl h
        · exact .inr ⟨.inr h, h'⟩
      · rintro (h | ⟨rfl | h, h'⟩)
        · exact .inl (.inr h)
        · exact .inl (.inl rfl)
        · exact .inr ⟨h, h'⟩
    | false =>
      rw [if_neg (by decide)]
      obtain ⟨k1, k2⟩ := kidsN_spec a b c r acc i2 (fun z hz y hy => hd z (List.mem_cons_of_mem _ hz) y hy) h
      refine ⟨k1, fun y => ?_⟩
      rw [k2, List.mem_cons]
      constructor
      · rintro (h | ⟨h, h'⟩)
        · exact .inl h
        · exact .inr ⟨.inr h, h'⟩
      · rintro (h | ⟨rfl | h, h'⟩)
        · exact .inl h
        · rw [hk] at h'; cases h'
        · exact .inr ⟨h, h'⟩
theorem kids_desc {l : List CE} (h : Ids l) (a b c : Int) : Desc (kids l a b c) := (kidsN_spec a b c l [] h (by simp) .nil).1
theorem mem_kids {l : List CE} (h : Ids l) {a b c : Int} {y : CE} : y ∈ kids l a b c ↔ y ∈ l ∧ y.after = (a, b, c) := by
  rw [kids, (kidsN_spec a b c l [] h (by simp) .nil).2]
  simp [isKid, CE.after]
end Go.Sq

/- SEQUENCE, 12: the comparison that sorts. -/
namespace Go.Sq
open Go Go.Am Go.Proofs Go.Seat

def stampL (c : CE) : List AV := [int c.tm, int c.dv, int c.sq, int c.at']

theorem stamp_w (c : CE) (h : True) : CallC P G 32 [cel c] [] (AOut.ret (AV.agg (stampL c))) [] := by
  have _ := h
  exact callC_of [] (by kernel_rfl)

theorem stamp_c (c : CE) : CallC P G 32 [cel c] [] (.ret (.agg [int c.tm, int c.dv, int c.sq, int c.at'])) [] := stamp_w c trivial

theorem nan_w (a : Int) (h : True) : CallC P G 48 [int a] [] (AOut.ret (Am.bool (a != a))) [] := by
  have _ := h
  exact callC_of [] (by kernel_rfl)

theorem nan_c (a : Int) : CallC P G 48 [int a] [] (.ret (bool false)) [] := by
  have := nan_w a
  simpa using this

def cmpI (a b : Int) : Int := if a < b then -1 else if b < a then 1 else 0

theorem cmpI_w (a b : Int) (r : Int) (h : (((a < b) → (-1 : Int) = (r)) ∧ ((¬a < b) → (((a > b) → (1 : Int) = (r)) ∧ ((¬a > b) → (0 : Int) = (r)))))) : CallC P G 43 [int a, int b] [] (AOut.ret (int r)) [] := by
  have hz0 := (@Go.Sq.nan_c (a))
  have hz1 := (@Go.Sq.nan_c (b))
  by_cases c1 : (a < b)
  · have h := h.1 c1
    have e1 := h
    exact callC_out (Sub.int_eq e1) [kc [] hz0, kc [] hz1, kf (Eq.refl false), kf (Eq.refl false), kt (decide_eq_true c1)] (by kernel_rfl)
  · have h := h.2 c1
    by_cases c2 : (a > b)
    · have h := h.1 c2
      have e1 := h
      exact callC_out (Sub.int_eq e1) [kc [] hz0, kc [] hz1, kf (Eq.refl false), kf (Eq.refl false), kf (decide_eq_false c1), kt (decide_eq_true c2)] (by kernel_rfl)
    · have h := h.2 c2
      have e1 := h
      exact callC_out (Sub.int_eq e1) [kc [] hz0, kc [] hz1, kf (Eq.refl false), kf (Eq.refl false), kf (decide_eq_false c1), kf (decide_eq_false c2)] (by kernel_rfl)

theorem cmpI_c (a b : Int) : CallC P G 43 [int a, int b] [] (.ret (int (cmpI a b))) [] := cmpI_w a b _ (by
  unfold cmpI; grind)

abbrev four (a b c d : Int) : AV := .sl 1 true [[int a], [int b], [int c], [int d]]
def cfSt (a b c d a' b' c' d' : Int) (k : Nat) : St := { env := slots 39 [(0, four a b c d), (1, four a' b' c' d'), (2, .lit (.func (.func 43) #[] #[])), (6, int 0), (11, four a b c d), (12, int 4), (13, int k)], H := [] }

theorem cf4 (a b c d a' b' c' d' : Int) (ex : AEx) (s' : St) (h : (AEx.exit 0 = ex) ∧ (St.mk (slots 39 [(0, AV.sl 1 true [[int a], [int b], [int c], [int d]]), (1, AV.sl 1 true [[int a'], [int b'], [int c'], [int d']]), (6, int 0)]) [] [] = s')) : RunL P G none 0 (loopAt P 42 0) (cfSt a b c d a' b' c' d' 4) ex s' := by
  obtain ⟨eX, eS⟩ := h
  exact RunL.to ((show RunL P G none 0 (loopAt P 42 0) (cfSt a b c d a' b' c' d' 4) (AEx.exit 0) (St.mk (slots 39 [(0, AV.sl 1 true [[int a], [int b], [int c], [int d]]), (1, AV.sl 1 true [[int a'], [int b'], [int c'], [int d']]), (6, int 0)]) [] []) from loop_exit [kf (Eq.refl false)] (others 39 [0, 1, 6]) 0 (by kernel_rfl))) eX (SubS.of_eq eS)

theorem cf3 (a b c d a' b' c' d' : Int) (ex : AEx) (s' : St) (h : (((cmpI d d' = (0 : Int)) → RunL P G none 0 (loopAt P 42 0) (St.mk (slots 39 [(0, AV.sl 1 true [[int a], [int b], [int c], [int d]]), (1, AV.sl 1 true [[int a'], [int b'], [int c'], [int d']]), (2, AV.lit (Value.func (Fn.func 43) (Array.mk []) (Array.mk []))), (6, int 0), (11, AV.sl 1 true [[int a], [int b], [int c], [int d]]), (12, int 4), (13, int 4)]) [] []) ex s') ∧ ((¬cmpI d d' = (0 : Int)) → (AEx.ret = ex) ∧ (St.mk (slots 39 [(0, AV.sl 1 true [[int a], [int b], [int c], [int d]]), (1, AV.sl 1 true [[int a'], [int b'], [int c'], [int d']]), (6, int (cmpI d d'))]) [] [] = s')))) : RunL P G none 0 (loopAt P 42 0) (cfSt a b c d a' b' c' d' 3) ex s' := by
  have hz0 : (0 : Int) ≤ (3 : Int) ∧ [[int a], [int b], [int c], [int d]][Int.toNat (↑3 : Int)]? = some [int d] := (⟨by decide, rfl⟩)
  have hz1 : (0 : Int) ≤ (3 : Int) ∧ [[int a'], [int b'], [int c'], [int d']][Int.toNat (↑3 : Int)]? = some [int d'] := (⟨by decide, rfl⟩)
  have hz2 := (@Go.Sq.cmpI_c (d) (d'))
  by_cases c1 : (cmpI d d' = (0 : Int))
  · have h := h.1 c1
    exact loop_next [kt (Eq.refl true), ko (Orc.elem [int d]), kp hz0, kf (Eq.refl false), ko (Orc.elem [int d']), kp hz1, kc [] hz2, kf (show (cmpI d d' != 0) = false from (congrArg Bool.not (beq_iff_eq.2 c1)))] (others 39 [0, 1, 2, 6, 11, 12, 13]) 0 h (by kernel_rfl)
  · have h := h.2 c1
    obtain ⟨eX, eS⟩ := h
    exact RunL.to ((show RunL P G none 0 (loopAt P 42 0) (cfSt a b c d a' b' c' d' 3) AEx.ret (St.mk (slots 39 [(0, AV.sl 1 true [[int a], [int b], [int c], [int d]]), (1, AV.sl 1 true [[int a'], [int b'], [int c'], [int d']]), (6, int (cmpI d d'))]) [] []) from loop_exit [kt (Eq.refl true), ko (Orc.elem [int d]), kp hz0, kf (Eq.refl false), ko (Orc.elem [int d']), kp hz1, kc [] hz2, kt (show (cmpI d d' != 0) = true from (congrArg Bool.not (beq_eq_false_iff_ne.2 c1)))] (others 39 [0, 1, 6]) 0 (by kernel_rfl))) eX (SubS.of_eq eS)

theorem cf2 (a b c d a' b' c' d' : Int) (ex : AEx) (s' : St) (h : (((cmpI c c' = (0 : Int)) → RunL P G none 0 (loopAt P 42 0) (St.mk (slots 39 [(0, AV.sl 1 true [[int a], [int b], [int c], [int d]]), (1, AV.sl 1 true [[int a'], [int b'], [int c'], [int d']]), (2, AV.lit (Value.func (Fn.func 43) (Array.mk []) (Array.mk []))), (6, int 0), (11, AV.sl 1 true [[int a], [int b], [int c], [int d]]), (12, int 4), (13, int 3)]) [] []) ex s') ∧ ((¬cmpI c c' = (0 : Int)) → (AEx.ret = ex) ∧ (St.mk (slots 39 [(0, AV.sl 1 true [[int a], [int b], [int c], [int d]]), (1, AV.sl 1 true [[int a'], [int b'], [int c'], [int d']]), (6, int (cmpI c c'))]) [] [] = s')))) : RunL P G none 0 (loopAt P 42 0) (cfSt a b c d a' b' c' d' 2) ex s' := by
  have hz0 : (0 : Int) ≤ (2 : Int) ∧ [[int a], [int b], [int c], [int d]][Int.toNat (↑2 : Int)]? = some [int c] := (⟨by decide, rfl⟩)
  have hz1 : (0 : Int) ≤ (2 : Int) ∧ [[int a'], [int b'], [int c'], [int d']][Int.toNat (↑2 : Int)]? = some [int c'] := (⟨by decide, rfl⟩)
  have hz2 := (@Go.Sq.cmpI_c (c) (c'))
  by_cases c1 : (cmpI c c' = (0 : Int))
  · have h := h.1 c1
    exact loop_next [kt (Eq.refl true), ko (Orc.elem [int c]), kp hz0, kf (Eq.refl false), ko (Orc.elem [int c']), kp hz1, kc [] hz2, kf (show (cmpI c c' != 0) = false from (congrArg Bool.not (beq_iff_eq.2 c1)))] (others 39 [0, 1, 2, 6, 11, 12, 13]) 0 h (by kernel_rfl)
  · have h := h.2 c1
    obtain ⟨eX, eS⟩ := h
    exact RunL.to ((show RunL P G none 0 (loopAt P 42 0) (cfSt a b c d a' b' c' d' 2) AEx.ret (St.mk (slots 39 [(0, AV.sl 1 true [[int a], [int b], [int c], [int d]]), (1, AV.sl 1 true [[int a'], [int b'], [int c'], [int d']]), (6, int (cmpI c c'))]) [] []) from loop_exit [kt (Eq.refl true), ko (Orc.elem [int c]), kp hz0, kf (Eq.refl false), ko (Orc.elem [int c']), kp hz1, kc [] hz2, kt (show (cmpI c c' != 0) = true from (congrArg Bool.not (beq_eq_false_iff_ne.2 c1)))] (others 39 [0, 1, 6]) 0 (by kernel_rfl))) eX (SubS.of_eq eS)

theorem cf1 (a b c d a' b' c' d' : Int) (ex : AEx) (s' : St) (h : (((cmpI b b' = (0 : Int)) → RunL P G none 0 (loopAt P 42 0) (St.mk (slots 39 [(0, AV.sl 1 true [[int a], [int b], [int c], [int d]]), (1, AV.sl 1 true [[int a'], [int b'], [int c'], [int d']]), (2, AV.lit (Value.func (Fn.func 43) (Array.mk []) (Array.mk []))), (6, int 0), (11, AV.sl 1 true [[int a], [int b], [int c], [int d]]), (12, int 4), (13, int 2)]) [] []) ex s') ∧ ((¬cmpI b b' = (0 : Int)) → (AEx.ret = ex) ∧ (St.mk (slots 39 [(0, AV.sl 1 true [[int a], [int b], [int c], [int d]]), (1, AV.sl 1 true [[int a'], [int b'], [int c'], [int d']]), (6, int (cmpI b b'))]) [] [] = s')))) : RunL P G none 0 (loopAt P 42 0) (cfSt a b c d a' b' c' d' 1) ex s' := by
  have hz0 : (0 : Int) ≤ (1 : Int) ∧ [[int a], [int b], [int c], [int d]][Int.toNat (↑1 : Int)]? = some [int b] := (⟨by decide, rfl⟩)
  have hz1 : (0 : Int) ≤ (1 : Int) ∧ [[int a'], [int b'], [int c'], [int d']][Int.toNat (↑1 : Int)]? = some [int b'] := (⟨by decide, rfl⟩)
  have hz2 := (@Go.Sq.cmpI_c (b) (b'))
  by_cases c1 : (cmpI b b' = (0 : Int))
  · have h := h.1 c1
    exact loop_next [kt (Eq.refl true), ko (Orc.elem [int b]), kp hz0, kf (Eq.refl false), ko (Orc.elem [int b']), kp hz1, kc [] hz2, kf (show (cmpI b b' != 0) = false from (congrArg Bool.not (beq_iff_eq.2 c1)))] (others 39 [0, 1, 2, 6, 11, 12, 13]) 0 h (by kernel_rfl)
  · have h := h.2 c1
    obtain ⟨eX, eS⟩ := h
    exact RunL.to ((show RunL P G none 0 (loopAt P 42 0) (cfSt a b c d a' b' c' d' 1) AEx.ret (St.mk (slots 39 [(0, AV.sl 1 true [[int a], [int b], [int c], [int d]]), (1, AV.sl 1 true [[int a'], [int b'], [int c'], [int d']]), (6, int (cmpI b b'))]) [] []) from loop_exit [kt (Eq.refl true), ko (Orc.elem [int b]), kp hz0, kf (Eq.refl false), ko (Orc.elem [int b']), kp hz1, kc [] hz2, kt (show (cmpI b b' != 0) = true from (congrArg Bool.not (beq_eq_false_iff_ne.2 c1)))] (others 39 [0, 1, 6]) 0 (by kernel_rfl))) eX (SubS.of_eq eS)

theorem cf0 (a b c d a' b' c' d' : Int) (ex : AEx) (s' : St) (h : (((cmpI a a' = (0 : Int)) → RunL P G none 0 (loopAt P 42 0) (St.mk (slots 39 [(0, AV.sl 1 true [[int a], [int b], [int c], [int d]]), (1, AV.sl 1 true [[int a'], [int b'], [int c'], [int d']]), (2, AV.lit (Value.func (Fn.func 43) (Array.mk []) (Array.mk []))), (6, int 0), (11, AV.sl 1 true [[int a], [int b], [int c], [int d]]), (12, int 4), (13, int 1)]) [] []) ex s') ∧ ((¬cmpI a a' = (0 : Int)) → (AEx.ret = ex) ∧ (St.mk (slots 39 [(0, AV.sl 1 true [[int a], [int b], [int c], [int d]]), (1, AV.sl 1 true [[int a'], [int b'], [int c'], [int d']]), (6, int (cmpI a a'))]) [] [] = s')))) : RunL P G none 0 (loopAt P 42 0) (cfSt a b c d a' b' c' d' 0) ex s' := by
  have hz0 : (0 : Int) ≤ (0 : Int) ∧ [[int a], [int b], [int c], [int d]][Int.toNat (↑0 : Int)]? = some [int a] := (⟨by decide, rfl⟩)
  have hz1 : (0 : Int) ≤ (0 : Int) ∧ [[int a'], [int b'], [int c'], [int d']][Int.toNat (↑0 : Int)]? = some [int a'] := (⟨by decide, rfl⟩)
  have hz2 := (@Go.Sq.cmpI_c (a) (a'))
  by_cases c1 : (cmpI a a' = (0 : Int))
  · have h := h.1 c1
    exact loop_next [kt (Eq.refl true), ko (Orc.elem [int a]), kp hz0, kf (Eq.refl false), ko (Orc.elem [int a']), kp hz1, kc [] hz2, kf (show (cmpI a a' != 0) = false from (congrArg Bool.not (beq_iff_eq.2 c1)))] (others 39 [0, 1, 2, 6, 11, 12, 13]) 0 h (by kernel_rfl)
  · have h := h.2 c1
    obtain ⟨eX, eS⟩ := h
    exact RunL.to ((show RunL P G none 0 (loopAt P 42 0) (cfSt a b c d a' b' c' d' 0) AEx.ret (St.mk (slots 39 [(0, AV.sl 1 true [[int a], [int b], [int c], [int d]]), (1, AV.sl 1 true [[int a'], [int b'], [int c'], [int d']]), (6, int (cmpI a a'))]) [] []) from loop_exit [kt (Eq.refl true), ko (Orc.elem [int a]), kp hz0, kf (Eq.refl false), ko (Orc.elem [int a']), kp hz1, kc [] hz2, kt (show (cmpI a a' != 0) = true from (congrArg Bool.not (beq_eq_false_iff_ne.2 c1)))] (others 39 [0, 1, 6]) 0 (by kernel_rfl))) eX (SubS.of_eq eS)

def cmp4 (a b c d a' b' c' d' : Int) : Int := if cmpI a a' = 0 then (if cmpI b b' = 0 then (if cmpI c c' = 0 then cmpI d d' else cmpI c c') else cmpI b b') else cmpI a a'
def cfE (a b c d a' b' c' d' : Int) (r : Int) : St := { env := slots 39 [(0, four a b c d), (1, four a' b' c' d'), (6, int r)], H := [] }
theorem cf_run (a b c d a' b' c' d' : Int) : RunL P G none 0 (loopAt P 42 0) (cfSt a b c d a' b' c' d' 0) (if cmp4 a b c d a' b' c' d' = 0 then .exit 0 else .ret) (cfE a b c d a' b' c' d' (cmp4 a b c d a' b' c' d')) := by
  unfold cmp4
  by_cases h1 : cmpI a a' = 0
  · rw [if_pos h1]
    by_cases h2 : cmpI b b' = 0
    · rw [if_pos h2]
      by_cases h3 : cmpI c c' = 0
      · rw [if_pos h3]
        refine cf0 a b c d a' b' c' d' _ _ ⟨fun _ => cf1 a b c d a' b' c' d' _ _ ⟨fun _ => cf2 a b c d a' b' c' d' _ _ ⟨fun _ => cf3 a b c d a' b' c' d' _ _ ⟨fun h4 => cf4 a b c d a' b' c' d' _ _ ?_, fun h4 => ?_⟩, fun h => absurd h3 h⟩, fun h => absurd h2 h⟩, fun h => absurd h1 h⟩
        · rw [if_pos h4, h4]; exact ⟨rfl, rfl⟩
        · rw [if_neg h4]; exact ⟨rfl, rfl⟩
      · rw [if_neg h3, if_neg h3]
        exact cf0 a b c d a' b' c' d' _ _ ⟨fun _ => cf1 a b c d a' b' c' d' _ _ ⟨fun _ => cf2 a b c d a' b' c' d' _ _ ⟨fun h => absurd h h3, fun _ => ⟨rfl, rfl⟩⟩, fun h => absurd h2 h⟩, fun h => absurd h1 h⟩
    · rw [if_neg h2, if_neg h2]
      exact cf0 a b c d a' b' c' d' _ _ ⟨fun _ => cf1 a b c d a' b' c' d' _ _ ⟨fun h => absurd h h2, fun _ => ⟨rfl, rfl⟩⟩, fun h => absurd h1 h⟩
  · rw [if_neg h1, if_neg h1]
    exact cf0 a b c d a' b' c' d' _ _ ⟨fun h => absurd h h1, fun _ => ⟨rfl, rfl⟩⟩

theorem cff_w (a b c d a' b' c' d' : Int) (r : Int) (hL : RunL P G none 0 (loopAt P 42 0) (cfSt a b c d a' b' c' d' 0) (if cmp4 a b c d a' b' c' d' = 0 then .exit 0 else .ret) { env := slots 39 [(0, four a b c d), (1, four a' b' c' d'), (6, int (cmp4 a b c d a' b' c' d'))], H := [] }) (h : (((cmp4 a b c d a' b' c' d' = (0 : Int)) → (0 : Int) = (r)) ∧ ((¬cmp4 a b c d a' b' c' d' = (0 : Int)) → (cmp4 a b c d a' b' c' d' : Int) = (r)))) : CallC P G 42 [four a b c d, four a' b' c' d', AV.lit (Value.func (Fn.func 43) #[] #[])] [] (AOut.ret (int r)) [] := by
  by_cases c1 : (cmp4 a b c d a' b' c' d' = (0 : Int))
  · have h := h.1 c1
    have e1 := h
    exact callC_out (Sub.int_eq e1) [kl [3, 4, 5, 7, 8, 9, 10, 14, 15, 16, 17, 18, 19, 20, 21, 22, 23, 24, 25, 26, 27, 28, 29, 30, 31, 32, 33, 34, 35, 36, 37, 38] 0 (show RunL P G none 0 (loopAt P 42 0) (St.mk (slots 39 [(0, AV.sl 1 true [[int a], [int b], [int c], [int d]]), (1, AV.sl 1 true [[int a'], [int b'], [int c'], [int d']]), (2, AV.lit (Value.func (Fn.func 43) (Array.mk []) (Array.mk []))), (6, int 0), (11, AV.sl 1 true [[int a], [int b], [int c], [int d]]), (12, int (↑(List.length [[int a], [int b], [int c], [int d]]) : Int)), (13, int 0)]) [] []) (AEx.exit 0) (St.mk (slots 39 [(0, AV.sl 1 true [[int a], [int b], [int c], [int d]]), (1, AV.sl 1 true [[int a'], [int b'], [int c'], [int d']]), (6, int (cmp4 a b c d a' b' c' d'))]) [] []) from (by have h0 := (@hL ); simp only [if_pos c1] at h0; exact h0)), kf (Eq.refl false)] (by kernel_rfl)
  · have h := h.2 c1
    have e1 := h
    exact callC_out (Sub.int_eq e1) [kl [3, 4, 5, 7, 8, 9, 10, 14, 15, 16, 17, 18, 19, 20, 21, 22, 23, 24, 25, 26, 27, 28, 29, 30, 31, 32, 33, 34, 35, 36, 37, 38] 0 (show RunL P G none 0 (loopAt P 42 0) (St.mk (slots 39 [(0, AV.sl 1 true [[int a], [int b], [int c], [int d]]), (1, AV.sl 1 true [[int a'], [int b'], [int c'], [int d']]), (2, AV.lit (Value.func (Fn.func 43) (Array.mk []) (Array.mk []))), (6, int 0), (11, AV.sl 1 true [[int a], [int b], [int c], [int d]]), (12, int (↑(List.length [[int a], [int b], [int c], [int d]]) : Int)), (13, int 0)]) [] []) AEx.ret (St.mk (slots 39 [(0, AV.sl 1 true [[int a], [int b], [int c], [int d]]), (1, AV.sl 1 true [[int a'], [int b'], [int c'], [int d']]), (6, int (cmp4 a b c d a' b' c' d'))]) [] []) from (by have h0 := (@hL ); simp only [if_neg c1] at h0; exact h0))] (by kernel_rfl)

theorem cff_c (a b c d a' b' c' d' : Int) : CallC P G 42 [four a b c d, four a' b' c' d', .lit (.func (.func 43) #[] #[])] [] (.ret (int (cmp4 a b c d a' b' c' d'))) [] := cff_w a b c d a' b' c' d' _ (cf_run a b c d a' b' c' d') ⟨fun h => h.symm, fun _ => rfl⟩

end Go.Sq
