/- CODEC, 5: Check in both packages; few parts. -/
import Derived.KernelRfl
import Derived.Test.YtbmimjjhifjofaaC4
namespace Go.Cdc
set_option linter.unusedSimpArgs false
set_option linter.unusedVariables false
open Go Go.Am Go.Proofs

def chkE (v : CV) : Int := if wf v = true then (if 16 < dp v then 2 else 0) else 1

theorem check_w_p1 (v : CV) (d : Nat) (b : Bool) : runF P G 12 [val v] [] [Orc.call [] (AOut.ret (AV.tup [int (if b = true then (↑d : Int) else 0), Am.bool b])) [], Orc.br false, Orc.br true] =
    some (AOut.ret (int 2), [], [CallC P G 24 [AV.agg [int (CV.k v), int (CV.n v), str (CV.s v), AV.sl 4 false (encL (CV.l v))]] [] (AOut.ret (AV.tup [int (if b = true then (↑d : Int) else 0), Am.bool b])) [], (!b) = false, decide ((if b = true then (↑d : Int) else 0) > (16 : Int)) = true]) := by kernel_rfl

theorem check_w_p2 (v : CV) (d : Nat) (b : Bool) : runF P G 12 [val v] [] [Orc.call [] (AOut.ret (AV.tup [int (if b = true then (↑d : Int) else 0), Am.bool b])) [], Orc.br false, Orc.br false] =
    some (AOut.ret (int 0), [], [CallC P G 24 [AV.agg [int (CV.k v), int (CV.n v), str (CV.s v), AV.sl 4 false (encL (CV.l v))]] [] (AOut.ret (AV.tup [int (if b = true then (↑d : Int) else 0), Am.bool b])) [], (!b) = false, decide ((if b = true then (↑d : Int) else 0) > (16 : Int)) = false]) := by kernel_rfl

theorem check_w_p3 (v : CV) (d : Nat) (b : Bool) : runF P G 12 [val v] [] [Orc.call [] (AOut.ret (AV.tup [int (if b = true then (↑d : Int) else 0), Am.bool b])) [], Orc.br true] =
    some (AOut.ret (int 1), [], [CallC P G 24 [AV.agg [int (CV.k v), int (CV.n v), str (CV.s v), AV.sl 4 false (encL (CV.l v))]] [] (AOut.ret (AV.tup [int (if b = true then (↑d : Int) else 0), Am.bool b])) [], (!b) = true]) := by kernel_rfl

theorem check_w (v : CV) (d : Nat) (b : Bool) (e : Int) (hv : CallC P G 24 [val v] [] (.ret (.tup [int (if b = true then (d : Int) else 0), bool b])) []) (h : ((((b) = true) → ((((if b = true then (↑d : Int) else 0) > (16 : Int)) → (2 : Int) = (e)) ∧ ((¬(if b = true then (↑d : Int) else 0) > (16 : Int)) → (0 : Int) = (e)))) ∧ (((b) = false) → (1 : Int) = (e)))) : CallC P G 12 [val v] [] (AOut.ret (int e)) [] := by
  rcases Bool.eq_false_or_eq_true ((b)) with c1 | c1
  · have h := h.1 c1
    by_cases c2 : ((if b = true then (↑d : Int) else 0) > (16 : Int))
    · have h := h.1 c2
      have e1 := h
      exact CallC.out (callC_of_run _ (check_w_p1 v d b) ⟨(@hv ), (congrArg Bool.not (c1)), (decide_eq_true c2), trivial⟩) (Sub.int_eq e1)
    · have h := h.2 c2
      have e1 := h
      exact CallC.out (callC_of_run _ (check_w_p2 v d b) ⟨(@hv ), (congrArg Bool.not (c1)), (decide_eq_false c2), trivial⟩) (Sub.int_eq e1)
  · have h := h.2 c1
    have e1 := h
    exact CallC.out (callC_of_run _ (check_w_p3 v d b) ⟨(@hv ), (congrArg Bool.not (c1)), trivial⟩) (Sub.int_eq e1)


theorem check_c (v : CV) (hok : Okv v) (hd : dp v ≤ 1000001) : CallC P G 12 [val v] [] (.ret (int (chkE v))) [] := by
  have hf := formed_c v hok hd
  unfold FormedC at hf
  refine check_w v (dp v) (wf v) _ hf ⟨fun h => ⟨fun h2 => ?_, fun h2 => ?_⟩, fun h => ?_⟩
  · rw [if_pos h] at h2; simp only [chkE, h, if_true]; rw [if_pos (by omega)]
  · rw [if_pos h] at h2; simp only [chkE, h, if_true]; rw [if_neg (by omega)]
  · simp [chkE, h]

theorem rf1_w_p1 (n : Int) (s : ByteArray) (l : List CV) : runF P G 25 [vmk 1 n s l] [] [Orc.br true, Orc.val (some 10) (Am.bool (decide (s = { data := #[] }))), Orc.br true, Orc.val (some 14) (int (↑(List.length l) : Int))] =
    some (AOut.ret (Am.bool ((↑(List.length l) : Int) == 0)), [], [true = true, Am.Sub (Am.bool (ByteArray.toList s == ByteArray.toList { data := #[] })) (Am.bool (decide (s = { data := #[] }))), decide (s = { data := #[] }) = true, Am.Sub (int (↑(List.length (encL l)) : Int)) (int (↑(List.length l) : Int))]) := by kernel_rfl

theorem rf1_w_p2 (n : Int) (s : ByteArray) (l : List CV) : runF P G 25 [vmk 1 n s l] [] [Orc.br true, Orc.val (some 10) (Am.bool (decide (s = { data := #[] }))), Orc.br false] =
    some (AOut.ret (Am.bool false), [], [true = true, Am.Sub (Am.bool (ByteArray.toList s == ByteArray.toList { data := #[] })) (Am.bool (decide (s = { data := #[] }))), decide (s = { data := #[] }) = false]) := by kernel_rfl

theorem rf1_w (n : Int) (s : ByteArray) (l : List CV) (b : Bool) (h : (((s = { data := #[] }) → ((↑(List.length l) : Int) == 0) = (b)) ∧ ((¬s = { data := #[] }) → (false) = (b)))) : CallC P G 25 [vmk 1 n s l] [] (AOut.ret (Am.bool b)) [] := by
  by_cases c1 : (s = { data := #[] })
  · have h := h.1 c1
    have e1 := h
    exact CallC.out (callC_of_run _ (rf1_w_p1 n s l) ⟨(rfl), Sub.of_eq (by simp only [Go.Cdc.str_eq]), (decide_eq_true c1), Sub.of_eq (by simp only [Go.Cdc.encL_length]), trivial⟩) (Sub.bool_eq e1)
  · have h := h.2 c1
    have e1 := h
    exact CallC.out (callC_of_run _ (rf1_w_p2 n s l) ⟨(rfl), Sub.of_eq (by simp only [Go.Cdc.str_eq]), (decide_eq_false c1), trivial⟩) (Sub.bool_eq e1)


theorem rf2_w_p1 (n : Int) (s : ByteArray) (l : List CV) : runF P G 25 [vmk 2 n s l] [] [Orc.br false, Orc.br true, Orc.br true, Orc.val (some 25) (int (↑(List.length l) : Int))] =
    some (AOut.ret (Am.bool ((↑(List.length l) : Int) == 0)), [], [false = false, true = true, (n == 0) = true, Am.Sub (int (↑(List.length (encL l)) : Int)) (int (↑(List.length l) : Int))]) := by kernel_rfl

theorem rf2_w_p2 (n : Int) (s : ByteArray) (l : List CV) : runF P G 25 [vmk 2 n s l] [] [Orc.br false, Orc.br true, Orc.br false] =
    some (AOut.ret (Am.bool false), [], [false = false, true = true, (n == 0) = false]) := by kernel_rfl

theorem rf2_w (n : Int) (s : ByteArray) (l : List CV) (b : Bool) (h : (((n = (0 : Int)) → ((↑(List.length l) : Int) == 0) = (b)) ∧ ((¬n = (0 : Int)) → (false) = (b)))) : CallC P G 25 [vmk 2 n s l] [] (AOut.ret (Am.bool b)) [] := by
  by_cases c1 : (n = (0 : Int))
  · have h := h.1 c1
    have e1 := h
    exact CallC.out (callC_of_run _ (rf2_w_p1 n s l) ⟨(rfl), (rfl), (beq_iff_eq.2 c1), Sub.of_eq (by simp only [Go.Cdc.encL_length]), trivial⟩) (Sub.bool_eq e1)
  · have h := h.2 c1
    have e1 := h
    exact CallC.out (callC_of_run _ (rf2_w_p2 n s l) ⟨(rfl), (rfl), (beq_eq_false_iff_ne.2 c1), trivial⟩) (Sub.bool_eq e1)


theorem rfx_w_p1 (k : Int) (n : Int) (s : ByteArray) (l : List CV) : runF P G 25 [vmk k n s l] [] [Orc.br false, Orc.br false, Orc.br false] =
    some (AOut.ret (Am.bool false), [], [(k == 1) = false, (k == 2) = false, (k == 3) = false]) := by kernel_rfl

theorem rfx_w (k n : Int) (s : ByteArray) (l : List CV) (h1 : k ≠ 1) (h2 : k ≠ 2) (h3 : k ≠ 3) (h : True) : CallC P G 25 [vmk k n s l] [] (AOut.ret (Am.bool false)) [] := by
  have _ := h
  exact callC_of_run _ (rfx_w_p1 k n s l) ⟨(decide_eq_false (by omega)), (decide_eq_false (by omega)), (decide_eq_false (by omega)), trivial⟩


def rfSt (n : Int) (s : ByteArray) (l : List CV) (i : Nat) : St := { env := slots 52 [(1, .ptr 0 0), (2, bool false), (3, int i)], H := [.box [int 3, int n, str s, .sl 4 false (encL l)]] }

theorem rf_end_p1 (n : Int) (s : ByteArray) (l : List CV) (i : Nat) : loopExit P G none 0 (loopAt P 25 0) (rfSt n s l i) [Orc.val (some 33) (int (↑(List.length l) : Int)), Orc.br false] (others 52 [1, 2]) 1 =
    some (AEx.exit 1, { env := slots 52 [(1, AV.ptr 0 0), (2, Am.bool false)], H := [AObj.box [int 3, int n, str s, AV.sl 4 false (encL l)]] }, [Am.Sub (int (↑(List.length (encL l)) : Int)) (int (↑(List.length l) : Int)), decide ((↑i : Int) < (↑(List.length l) : Int)) = false]) := by kernel_rfl

theorem rf_end (n : Int) (s : ByteArray) (l : List CV) (i : Nat) (hi : l.length ≤ i) (h : True) : RunL P G none 0 (loopAt P 25 0) (rfSt n s l i) (AEx.exit 1) { env := slots 52 [(1, AV.ptr 0 0), (2, Am.bool false)], H := [AObj.box [int 3, int n, str s, AV.sl 4 false (encL l)]] } := by
  have _ := h
  exact RunL.exit _ _ _ (rf_end_p1 n s l i) ⟨Sub.of_eq (by simp only [Go.Cdc.encL_length]), (decide_eq_false (by omega)), trivial⟩


theorem rf_step_p1 (n : Int) (s : ByteArray) (l : List CV) (i : Nat) (x : CV) : loopStep P G none 0 (loopAt P 25 0) (rfSt n s l i) [Orc.val (some 33) (int (↑(List.length l) : Int)), Orc.br true, Orc.elem (enc x), Orc.call [] (AOut.ret (Am.bool (wf x))) [], Orc.br false, Orc.val (some 36) (int (↑(i + 1) : Int))] (others 52 [1, 2, 3]) 1 =
    some ({ env := slots 52 [(1, AV.ptr 0 0), (2, Am.bool false), (3, int (↑(i + 1) : Int))], H := [AObj.box [int 3, int n, str s, AV.sl 4 false (encL l)]] }, [Am.Sub (int (↑(List.length (encL l)) : Int)) (int (↑(List.length l) : Int)), decide ((↑i : Int) < (↑(List.length l) : Int)) = true, (0 : Int) ≤ (↑i : Int) ∧ (encL l)[Int.toNat (↑i : Int)]? = some (enc x), CallC P G 25 [AV.agg [int (CV.k x), int (CV.n x), str (CV.s x), AV.sl 4 false (encL (CV.l x))]] [] (AOut.ret (Am.bool (wf x))) [], (!wf x) = false, Am.Sub (int (IntKind.wrap IntKind.i64 ((↑i : Int) + 1))) (int (↑(i + 1) : Int))]) := by kernel_rfl

theorem rf_step_p2 (n : Int) (s : ByteArray) (l : List CV) (i : Nat) (x : CV) : loopExit P G none 0 (loopAt P 25 0) (rfSt n s l i) [Orc.val (some 33) (int (↑(List.length l) : Int)), Orc.br true, Orc.elem (enc x), Orc.call [] (AOut.ret (Am.bool (wf x))) [], Orc.br true] (others 52 [1, 2]) 1 =
    some (AEx.ret, { env := slots 52 [(1, AV.ptr 0 0), (2, Am.bool false)], H := [AObj.box [int 3, int n, str s, AV.sl 4 false (encL l)]] }, [Am.Sub (int (↑(List.length (encL l)) : Int)) (int (↑(List.length l) : Int)), decide ((↑i : Int) < (↑(List.length l) : Int)) = true, (0 : Int) ≤ (↑i : Int) ∧ (encL l)[Int.toNat (↑i : Int)]? = some (enc x), CallC P G 25 [AV.agg [int (CV.k x), int (CV.n x), str (CV.s x), AV.sl 4 false (encL (CV.l x))]] [] (AOut.ret (Am.bool (wf x))) [], (!wf x) = true]) := by kernel_rfl

theorem rf_step (n : Int) (s : ByteArray) (l : List CV) (i : Nat) (x : CV) (hi : i < l.length) (hl : l.length ≤ 9223372036854775807) (hx : l[i]? = some x) (hv : CallC P G 25 [val x] [] (.ret (bool (wf x))) []) (ex : AEx) (h : ((((wf x) = true) → RunL P G none 0 (loopAt P 25 0) { env := slots 52 [(1, AV.ptr 0 0), (2, Am.bool false), (3, int (↑(i + 1) : Int))], H := [AObj.box [int 3, int n, str s, AV.sl 4 false (encL l)]] } ex { env := slots 52 [(1, AV.ptr 0 0), (2, Am.bool false)], H := [AObj.box [int 3, int n, str s, AV.sl 4 false (encL l)]] }) ∧ (((wf x) = false) → AEx.ret = ex))) : RunL P G none 0 (loopAt P 25 0) (rfSt n s l i) ex { env := slots 52 [(1, AV.ptr 0 0), (2, Am.bool false)], H := [AObj.box [int 3, int n, str s, AV.sl 4 false (encL l)]] } := by
  rcases Bool.eq_false_or_eq_true ((wf x)) with c2 | c2
  · have h := h.1 c2
    exact RunL.next _ _ _ (rf_step_p1 n s l i x) ⟨Sub.of_eq (by simp only [Go.Cdc.encL_length]), (decide_eq_true (by omega)), (by rw [Go.Cdc.encL_map]; exact el_nat hx), (@hv ), (congrArg Bool.not (c2)), Sub.of_wrap (by omega) (by omega) (by omega), trivial⟩ h
  · have h := h.2 c2
    have eX := h
    exact RunL.to (RunL.exit _ _ _ (rf_step_p2 n s l i x) ⟨Sub.of_eq (by simp only [Go.Cdc.encL_length]), (decide_eq_true (by omega)), (by rw [Go.Cdc.encL_map]; exact el_nat hx), (@hv ), (congrArg Bool.not (c2)), trivial⟩) eX (SubS.of_eq rfl)


theorem rf3_w_p1 (n : Int) (s : ByteArray) (l : List CV) : runF P G 25 [vmk 3 n s l] [] [Orc.br false, Orc.br false, Orc.br true, Orc.loop [0, 4, 5, 6, 7, 8, 9, 10, 11, 12, 13, 14, 15, 16, 17, 18, 19, 20, 21, 22, 23, 24, 25, 26, 27, 28, 29, 30, 31, 32, 33, 34, 35, 36, 37, 38, 39, 40, 41, 42, 43, 44, 45, 46, 47, 48, 49, 50, 51] 1 (AEx.exit 1) [AV.dead, AV.ptr 0 0, Am.bool false, AV.dead, AV.dead, AV.dead, AV.dead, AV.dead, AV.dead, AV.dead, AV.dead, AV.dead, AV.dead, AV.dead, AV.dead, AV.dead, AV.dead, AV.dead, AV.dead, AV.dead, AV.dead, AV.dead, AV.dead, AV.dead, AV.dead, AV.dead, AV.dead, AV.dead, AV.dead, AV.dead, AV.dead, AV.dead, AV.dead, AV.dead, AV.dead, AV.dead, AV.dead, AV.dead, AV.dead, AV.dead, AV.dead, AV.dead, AV.dead, AV.dead, AV.dead, AV.dead, AV.dead, AV.dead, AV.dead, AV.dead, AV.dead, AV.dead] [AObj.box [int 3, int n, str s, AV.sl 4 false (encL l)]], Orc.br true, Orc.val (some 50) (Am.bool (decide (s = { data := #[] })))] =
    some (AOut.ret (Am.bool (decide (s = { data := #[] }))), [], [false = false, false = false, true = true, RunL P G none 0 (loopAt P 25 0) { env := slots 52 [(1, AV.ptr 0 0), (2, Am.bool false), (3, int 0)], H := [AObj.box [int 3, int n, str s, AV.sl 4 false (encL l)]] } (AEx.exit 1) { env := slots 52 [(1, AV.ptr 0 0), (2, Am.bool false)], H := [AObj.box [int 3, int n, str s, AV.sl 4 false (encL l)]] }, (n == 0) = true, Am.Sub (Am.bool (ByteArray.toList s == ByteArray.toList { data := #[] })) (Am.bool (decide (s = { data := #[] })))]) := by kernel_rfl

theorem rf3_w_p2 (n : Int) (s : ByteArray) (l : List CV) : runF P G 25 [vmk 3 n s l] [] [Orc.br false, Orc.br false, Orc.br true, Orc.loop [0, 4, 5, 6, 7, 8, 9, 10, 11, 12, 13, 14, 15, 16, 17, 18, 19, 20, 21, 22, 23, 24, 25, 26, 27, 28, 29, 30, 31, 32, 33, 34, 35, 36, 37, 38, 39, 40, 41, 42, 43, 44, 45, 46, 47, 48, 49, 50, 51] 1 (AEx.exit 1) [AV.dead, AV.ptr 0 0, Am.bool false, AV.dead, AV.dead, AV.dead, AV.dead, AV.dead, AV.dead, AV.dead, AV.dead, AV.dead, AV.dead, AV.dead, AV.dead, AV.dead, AV.dead, AV.dead, AV.dead, AV.dead, AV.dead, AV.dead, AV.dead, AV.dead, AV.dead, AV.dead, AV.dead, AV.dead, AV.dead, AV.dead, AV.dead, AV.dead, AV.dead, AV.dead, AV.dead, AV.dead, AV.dead, AV.dead, AV.dead, AV.dead, AV.dead, AV.dead, AV.dead, AV.dead, AV.dead, AV.dead, AV.dead, AV.dead, AV.dead, AV.dead, AV.dead, AV.dead] [AObj.box [int 3, int n, str s, AV.sl 4 false (encL l)]], Orc.br false] =
    some (AOut.ret (Am.bool false), [], [false = false, false = false, true = true, RunL P G none 0 (loopAt P 25 0) { env := slots 52 [(1, AV.ptr 0 0), (2, Am.bool false), (3, int 0)], H := [AObj.box [int 3, int n, str s, AV.sl 4 false (encL l)]] } (AEx.exit 1) { env := slots 52 [(1, AV.ptr 0 0), (2, Am.bool false)], H := [AObj.box [int 3, int n, str s, AV.sl 4 false (encL l)]] }, (n == 0) = false]) := by kernel_rfl

theorem rf3_w_p3 (n : Int) (s : ByteArray) (l : List CV) : runF P G 25 [vmk 3 n s l] [] [Orc.br false, Orc.br false, Orc.br true, Orc.loop [0, 4, 5, 6, 7, 8, 9, 10, 11, 12, 13, 14, 15, 16, 17, 18, 19, 20, 21, 22, 23, 24, 25, 26, 27, 28, 29, 30, 31, 32, 33, 34, 35, 36, 37, 38, 39, 40, 41, 42, 43, 44, 45, 46, 47, 48, 49, 50, 51] 1 AEx.ret [AV.dead, AV.ptr 0 0, Am.bool false, AV.dead, AV.dead, AV.dead, AV.dead, AV.dead, AV.dead, AV.dead, AV.dead, AV.dead, AV.dead, AV.dead, AV.dead, AV.dead, AV.dead, AV.dead, AV.dead, AV.dead, AV.dead, AV.dead, AV.dead, AV.dead, AV.dead, AV.dead, AV.dead, AV.dead, AV.dead, AV.dead, AV.dead, AV.dead, AV.dead, AV.dead, AV.dead, AV.dead, AV.dead, AV.dead, AV.dead, AV.dead, AV.dead, AV.dead, AV.dead, AV.dead, AV.dead, AV.dead, AV.dead, AV.dead, AV.dead, AV.dead, AV.dead, AV.dead] [AObj.box [int 3, int n, str s, AV.sl 4 false (encL l)]]] =
    some (AOut.ret (Am.bool false), [], [false = false, false = false, true = true, RunL P G none 0 (loopAt P 25 0) { env := slots 52 [(1, AV.ptr 0 0), (2, Am.bool false), (3, int 0)], H := [AObj.box [int 3, int n, str s, AV.sl 4 false (encL l)]] } AEx.ret { env := slots 52 [(1, AV.ptr 0 0), (2, Am.bool false)], H := [AObj.box [int 3, int n, str s, AV.sl 4 false (encL l)]] }]) := by kernel_rfl

theorem rf3_w (n : Int) (s : ByteArray) (l : List CV) (b : Bool) (hL : RunL P G none 0 (loopAt P 25 0) (rfSt n s l 0) (if wfL l = true then .exit 1 else .ret) { env := slots 52 [(1, .ptr 0 0), (2, bool false)], H := [.box [int 3, int n, str s, .sl 4 false (encL l)]] }) (h : (((wfL l = true) → (((n = (0 : Int)) → (decide (s = { data := #[] })) = (b)) ∧ ((¬n = (0 : Int)) → (false) = (b)))) ∧ ((¬wfL l = true) → (false) = (b)))) : CallC P G 25 [vmk 3 n s l] [] (AOut.ret (Am.bool b)) [] := by
  by_cases c1 : (wfL l = true)
  · have h := h.1 c1
    by_cases c2 : (n = (0 : Int))
    · have h := h.1 c2
      have e1 := h
      exact CallC.out (callC_of_run _ (rf3_w_p1 n s l) ⟨(rfl), (rfl), (rfl), (by have h0 := (@hL ); simp only [if_pos c1] at h0; exact h0), (beq_iff_eq.2 c2), Sub.of_eq (by simp only [Go.Cdc.str_eq]), trivial⟩) (Sub.bool_eq e1)
    · have h := h.2 c2
      have e1 := h
      exact CallC.out (callC_of_run _ (rf3_w_p2 n s l) ⟨(rfl), (rfl), (rfl), (by have h0 := (@hL ); simp only [if_pos c1] at h0; exact h0), (beq_eq_false_iff_ne.2 c2), trivial⟩) (Sub.bool_eq e1)
  · have h := h.2 c1
    have e1 := h
    exact CallC.out (callC_of_run _ (rf3_w_p3 n s l) ⟨(rfl), (rfl), (rfl), (by have h0 := (@hL ); simp only [if_neg c1] at h0; exact h0), trivial⟩) (Sub.bool_eq e1)


theorem rdx_w_p1 (k : Int) (n : Int) (s : ByteArray) (l : List CV) : runF P G 26 [vmk k n s l] [] [Orc.br true] =
    some (AOut.ret (int 0), [], [(k != 3) = true]) := by kernel_rfl

theorem rdx_w (k n : Int) (s : ByteArray) (l : List CV) (h3 : k ≠ 3) (h : True) : CallC P G 26 [vmk k n s l] [] (AOut.ret (int 0)) [] := by
  have _ := h
  exact callC_of_run _ (rdx_w_p1 k n s l) ⟨(congrArg Bool.not (decide_eq_false (by omega))), trivial⟩


def rdSt (n : Int) (s : ByteArray) (l : List CV) (d : Int) (i : Nat) : St := { env := slots 25 [(1, .ptr 0 0), (3, int d), (4, int i)], H := [.box [int 3, int n, str s, .sl 4 false (encL l)]] }

theorem rd_end_p1 (n : Int) (s : ByteArray) (l : List CV) (d : Int) (i : Nat) : loopExit P G none 0 (loopAt P 26 0) (rdSt n s l d i) [Orc.val (some 11) (int (↑(List.length l) : Int)), Orc.br false] (others 25 [3]) 1 =
    some (AEx.exit 0, { env := slots 25 [(3, int d)], H := [AObj.box [int 3, int n, str s, AV.sl 4 false (encL l)]] }, [Am.Sub (int (↑(List.length (encL l)) : Int)) (int (↑(List.length l) : Int)), decide ((↑i : Int) < (↑(List.length l) : Int)) = false]) := by kernel_rfl

theorem rd_end (n : Int) (s : ByteArray) (l : List CV) (d : Int) (i : Nat) (hi : l.length ≤ i) (h : True) : RunL P G none 0 (loopAt P 26 0) (rdSt n s l d i) (AEx.exit 0) { env := slots 25 [(3, int d)], H := [AObj.box [int 3, int n, str s, AV.sl 4 false (encL l)]] } := by
  have _ := h
  exact RunL.exit _ _ _ (rd_end_p1 n s l d i) ⟨Sub.of_eq (by simp only [Go.Cdc.encL_length]), (decide_eq_false (by omega)), trivial⟩


theorem rd_step_p1 (n : Int) (s : ByteArray) (l : List CV) (d : Nat) (i : Nat) (x : CV) : loopStep P G none 0 (loopAt P 26 0) (rdSt n s l (↑d : Int) i) [Orc.val (some 11) (int (↑(List.length l) : Int)), Orc.br true, Orc.elem (enc x), Orc.call [] (AOut.ret (int (↑(dp x) : Int))) [], Orc.val (some 14) (int (↑(i + 1) : Int))] (others 25 [1, 3, 4]) 1 =
    some ({ env := slots 25 [(1, AV.ptr 0 0), (3, int (if (↑(dp x) : Int) > (↑d : Int) then (↑(dp x) : Int) else (↑d : Int))), (4, int (↑(i + 1) : Int))], H := [AObj.box [int 3, int n, str s, AV.sl 4 false (encL l)]] }, [Am.Sub (int (↑(List.length (encL l)) : Int)) (int (↑(List.length l) : Int)), decide ((↑i : Int) < (↑(List.length l) : Int)) = true, (0 : Int) ≤ (↑i : Int) ∧ (encL l)[Int.toNat (↑i : Int)]? = some (enc x), CallC P G 26 [AV.agg [int (CV.k x), int (CV.n x), str (CV.s x), AV.sl 4 false (encL (CV.l x))]] [] (AOut.ret (int (↑(dp x) : Int))) [], Am.Sub (int (IntKind.wrap IntKind.i64 ((↑i : Int) + 1))) (int (↑(i + 1) : Int))]) := by kernel_rfl

theorem rd_step (n : Int) (s : ByteArray) (l : List CV) (d i : Nat) (x : CV) (hi : i < l.length) (hl : l.length ≤ 9223372036854775807) (hx : l[i]? = some x) (hv : CallC P G 26 [val x] [] (.ret (int (dp x : Int))) []) (ex : AEx) (s' : St) (h : RunL P G none 0 (loopAt P 26 0) { env := slots 25 [(1, AV.ptr 0 0), (3, int (if (↑(dp x) : Int) > (↑d : Int) then (↑(dp x) : Int) else (↑d : Int))), (4, int (↑(i + 1) : Int))], H := [AObj.box [int 3, int n, str s, AV.sl 4 false (encL l)]] } ex s') : RunL P G none 0 (loopAt P 26 0) (rdSt n s l (↑d : Int) i) ex s' := by
  exact RunL.next _ _ _ (rd_step_p1 n s l d i x) ⟨Sub.of_eq (by simp only [Go.Cdc.encL_length]), (decide_eq_true (by omega)), (by rw [Go.Cdc.encL_map]; exact el_nat hx), (@hv ), Sub.of_wrap (by omega) (by omega) (by omega), trivial⟩ h


theorem rd3_w_p1 (n : Int) (s : ByteArray) (l : List CV) : runF P G 26 [vmk 3 n s l] [] [Orc.br false, Orc.loop [0, 2, 5, 6, 7, 8, 9, 10, 11, 12, 13, 14, 15, 16, 17, 18, 19, 20, 21, 22, 23, 24] 1 (AEx.exit 0) [AV.dead, AV.dead, AV.dead, int (↑(dpL l) : Int), AV.dead, AV.dead, AV.dead, AV.dead, AV.dead, AV.dead, AV.dead, AV.dead, AV.dead, AV.dead, AV.dead, AV.dead, AV.dead, AV.dead, AV.dead, AV.dead, AV.dead, AV.dead, AV.dead, AV.dead, AV.dead] [AObj.box [int 3, int n, str s, AV.sl 4 false (encL l)]], Orc.val (some 24) (int (↑(dpL l + 1) : Int))] =
    some (AOut.ret (int (↑(dpL l + 1) : Int)), [], [false = false, RunL P G none 0 (loopAt P 26 0) { env := slots 25 [(1, AV.ptr 0 0), (3, int 0), (4, int 0)], H := [AObj.box [int 3, int n, str s, AV.sl 4 false (encL l)]] } (AEx.exit 0) { env := slots 25 [(3, int (↑(dpL l) : Int))], H := [AObj.box [int 3, int n, str s, AV.sl 4 false (encL l)]] }, Am.Sub (int (IntKind.wrap IntKind.i64 ((↑(dpL l) : Int) + 1))) (int (↑(dpL l + 1) : Int))]) := by kernel_rfl

theorem rd3_w (n : Int) (s : ByteArray) (l : List CV) (a : Int) (hd : dpL l ≤ 1000001) (hL : RunL P G none 0 (loopAt P 26 0) (rdSt n s l 0 0) (.exit 0) { env := slots 25 [(3, int (dpL l : Int))], H := [.box [int 3, int n, str s, .sl 4 false (encL l)]] }) (h : ((↑(dpL l + 1) : Int) : Int) = (a)) : CallC P G 26 [vmk 3 n s l] [] (AOut.ret (int a)) [] := by
  have e1 := h
  exact CallC.out (callC_of_run _ (rd3_w_p1 n s l) ⟨(rfl), (@hL ), Sub.of_wrap (by omega) (by omega) (by omega), trivial⟩) (Sub.int_eq e1)


theorem rcheck_w_p1 (v : CV) : runF P G 13 [val v] [] [Orc.call [] (AOut.ret (Am.bool (wf v))) [], Orc.br false, Orc.call [] (AOut.ret (int (↑(dp v) : Int))) [], Orc.br true] =
    some (AOut.ret (int 2), [], [CallC P G 25 [AV.agg [int (CV.k v), int (CV.n v), str (CV.s v), AV.sl 4 false (encL (CV.l v))]] [] (AOut.ret (Am.bool (wf v))) [], (!wf v) = false, CallC P G 26 [AV.agg [int (CV.k v), int (CV.n v), str (CV.s v), AV.sl 4 false (encL (CV.l v))]] [] (AOut.ret (int (↑(dp v) : Int))) [], decide ((↑(dp v) : Int) > (16 : Int)) = true]) := by kernel_rfl

theorem rcheck_w_p2 (v : CV) : runF P G 13 [val v] [] [Orc.call [] (AOut.ret (Am.bool (wf v))) [], Orc.br false, Orc.call [] (AOut.ret (int (↑(dp v) : Int))) [], Orc.br false] =
    some (AOut.ret (int 0), [], [CallC P G 25 [AV.agg [int (CV.k v), int (CV.n v), str (CV.s v), AV.sl 4 false (encL (CV.l v))]] [] (AOut.ret (Am.bool (wf v))) [], (!wf v) = false, CallC P G 26 [AV.agg [int (CV.k v), int (CV.n v), str (CV.s v), AV.sl 4 false (encL (CV.l v))]] [] (AOut.ret (int (↑(dp v) : Int))) [], decide ((↑(dp v) : Int) > (16 : Int)) = false]) := by kernel_rfl

theorem rcheck_w_p3 (v : CV) : runF P G 13 [val v] [] [Orc.call [] (AOut.ret (Am.bool (wf v))) [], Orc.br true] =
    some (AOut.ret (int 1), [], [CallC P G 25 [AV.agg [int (CV.k v), int (CV.n v), str (CV.s v), AV.sl 4 false (encL (CV.l v))]] [] (AOut.ret (Am.bool (wf v))) [], (!wf v) = true]) := by kernel_rfl

theorem rcheck_w (v : CV) (e : Int) (hd : dp v ≤ 1000001) (hf : CallC P G 25 [val v] [] (.ret (bool (wf v))) []) (hv : CallC P G 26 [val v] [] (.ret (int (dp v : Int))) []) (h : ((((wf v) = true) → ((((↑(dp v) : Int) > (16 : Int)) → (2 : Int) = (e)) ∧ ((¬(↑(dp v) : Int) > (16 : Int)) → (0 : Int) = (e)))) ∧ (((wf v) = false) → (1 : Int) = (e)))) : CallC P G 13 [val v] [] (AOut.ret (int e)) [] := by
  rcases Bool.eq_false_or_eq_true ((wf v)) with c1 | c1
  · have h := h.1 c1
    by_cases c2 : ((↑(dp v) : Int) > (16 : Int))
    · have h := h.1 c2
      have e1 := h
      exact CallC.out (callC_of_run _ (rcheck_w_p1 v) ⟨(@hf ), (congrArg Bool.not (c1)), (@hv ), (decide_eq_true c2), trivial⟩) (Sub.int_eq e1)
    · have h := h.2 c2
      have e1 := h
      exact CallC.out (callC_of_run _ (rcheck_w_p2 v) ⟨(@hf ), (congrArg Bool.not (c1)), (@hv ), (decide_eq_false c2), trivial⟩) (Sub.int_eq e1)
  · have h := h.2 c1
    have e1 := h
    exact CallC.out (callC_of_run _ (rcheck_w_p3 v) ⟨(@hf ), (congrArg Bool.not (c1)), trivial⟩) (Sub.int_eq e1)


theorem tdiv_200 (n : Nat) : Int.tdiv (n : Int) 200 = ((n / 200 : Nat) : Int) := rfl
mutual
/-- The parts of a value, as the reference counts them. -/
def cnt (d : Int) : CV → Nat
  | .mk _ _ s l => if d < 0 ∨ 150 < l.length then 1000 else cntL d l (1 + s.size / 200)
def cntL (d : Int) : List CV → Nat → Nat
  | [], m => m
  | x :: l, m => if m ≤ 1000 then cntL d l (m + cnt (d - 1) x) else m
end
theorem cnt_out_p1 (k : Int) (n : Int) (s : ByteArray) (l : List CV) (dep : Int) : runF P G 32 [vmk k n s l, int dep] [] [Orc.val (some 10) (int (↑(ByteArray.size s / 200) : Int)), Orc.val (some 11) (int (↑(1 + ByteArray.size s / 200) : Int)), Orc.br true, Orc.br true] =
    some (AOut.ret (int 1000), [], [Am.Sub (int (IntKind.wrap IntKind.i64 (Int.tdiv (↑(ByteArray.size s) : Int) 200))) (int (↑(ByteArray.size s / 200) : Int)), (200 : Int) ≠ (0 : Int), Am.Sub (int (IntKind.wrap IntKind.i64 (1 + (↑(ByteArray.size s / 200) : Int)))) (int (↑(1 + ByteArray.size s / 200) : Int)), decide (dep < (0 : Int)) = true, true = true]) := by kernel_rfl

theorem cnt_out_p2 (k : Int) (n : Int) (s : ByteArray) (l : List CV) (dep : Int) : runF P G 32 [vmk k n s l, int dep] [] [Orc.val (some 10) (int (↑(ByteArray.size s / 200) : Int)), Orc.val (some 11) (int (↑(1 + ByteArray.size s / 200) : Int)), Orc.br false, Orc.val (some 17) (int (↑(List.length l) : Int)), Orc.br true] =
    some (AOut.ret (int 1000), [], [Am.Sub (int (IntKind.wrap IntKind.i64 (Int.tdiv (↑(ByteArray.size s) : Int) 200))) (int (↑(ByteArray.size s / 200) : Int)), (200 : Int) ≠ (0 : Int), Am.Sub (int (IntKind.wrap IntKind.i64 (1 + (↑(ByteArray.size s / 200) : Int)))) (int (↑(1 + ByteArray.size s / 200) : Int)), decide (dep < (0 : Int)) = false, Am.Sub (int (↑(List.length (encL l)) : Int)) (int (↑(List.length l) : Int)), decide ((↑(List.length l) : Int) > (150 : Int)) = true]) := by kernel_rfl

theorem cnt_out (k n : Int) (s : ByteArray) (l : List CV) (dep : Int) (hs : s.size ≤ 9223372036854775807) (h : dep < 0 ∨ 150 < l.length) (h : (((dep < (0 : Int)) → True) ∧ ((¬dep < (0 : Int)) → True))) : CallC P G 32 [vmk k n s l, int dep] [] (AOut.ret (int 1000)) [] := by
  by_cases c1 : (dep < (0 : Int))
  · have h := h.1 c1
    have _ := h
    exact callC_of_run _ (cnt_out_p1 k n s l dep) ⟨Sub.of_wrap (by simp only [Go.Cdc.tdiv_200]; omega) (by simp only [Go.Cdc.tdiv_200]; omega) (by simp only [Go.Cdc.tdiv_200]), (by omega), Sub.of_wrap (by omega) (by omega) (by omega), (decide_eq_true c1), (rfl), trivial⟩
  · have h := h.2 c1
    have _ := h
    exact callC_of_run _ (cnt_out_p2 k n s l dep) ⟨Sub.of_wrap (by simp only [Go.Cdc.tdiv_200]; omega) (by simp only [Go.Cdc.tdiv_200]; omega) (by simp only [Go.Cdc.tdiv_200]), (by omega), Sub.of_wrap (by omega) (by omega) (by omega), (decide_eq_false c1), Sub.of_eq (by simp only [Go.Cdc.encL_length]), (decide_eq_true (by omega)), trivial⟩


def cnSt (k n : Int) (s : ByteArray) (l : List CV) (dep : Int) (m i : Nat) : St := { env := slots 42 [(1, int dep), (2, .ptr 0 0), (5, int m), (6, int i)], H := [.box [int k, int n, str s, .sl 4 false (encL l)]] }

theorem cn_end_p1 (k : Int) (n : Int) (s : ByteArray) (l : List CV) (dep : Int) (m : Nat) (i : Nat) : loopExit P G none 0 (loopAt P 32 0) (cnSt k n s l dep m i) [Orc.val (some 23) (int (↑(List.length l) : Int)), Orc.br true, Orc.br false] (others 42 [5]) 1 =
    some (AEx.exit 0, { env := slots 42 [(5, int (↑m : Int))], H := [AObj.box [int k, int n, str s, AV.sl 4 false (encL l)]] }, [Am.Sub (int (↑(List.length (encL l)) : Int)) (int (↑(List.length l) : Int)), decide ((↑i : Int) < (↑(List.length l) : Int)) = true, decide ((↑m : Int) ≤ (1000 : Int)) = false]) := by kernel_rfl

theorem cn_end_p2 (k : Int) (n : Int) (s : ByteArray) (l : List CV) (dep : Int) (m : Nat) (i : Nat) : loopExit P G none 0 (loopAt P 32 0) (cnSt k n s l dep m i) [Orc.val (some 23) (int (↑(List.length l) : Int)), Orc.br false, Orc.br false] (others 42 [5]) 1 =
    some (AEx.exit 0, { env := slots 42 [(5, int (↑m : Int))], H := [AObj.box [int k, int n, str s, AV.sl 4 false (encL l)]] }, [Am.Sub (int (↑(List.length (encL l)) : Int)) (int (↑(List.length l) : Int)), decide ((↑i : Int) < (↑(List.length l) : Int)) = false, false = false]) := by kernel_rfl

theorem cn_end (k n : Int) (s : ByteArray) (l : List CV) (dep : Int) (m i : Nat) (hi : l.length ≤ i ∨ 1000 < m) (h : ((((↑i : Int) < (↑(List.length l) : Int)) → True) ∧ ((¬(↑i : Int) < (↑(List.length l) : Int)) → True))) : RunL P G none 0 (loopAt P 32 0) (cnSt k n s l dep m i) (AEx.exit 0) { env := slots 42 [(5, int (↑m : Int))], H := [AObj.box [int k, int n, str s, AV.sl 4 false (encL l)]] } := by
  by_cases c1 : ((↑i : Int) < (↑(List.length l) : Int))
  · have h := h.1 c1
    have _ := h
    exact RunL.exit _ _ _ (cn_end_p1 k n s l dep m i) ⟨Sub.of_eq (by simp only [Go.Cdc.encL_length]), (decide_eq_true c1), (decide_eq_false (by omega)), trivial⟩
  · have h := h.2 c1
    have _ := h
    exact RunL.exit _ _ _ (cn_end_p2 k n s l dep m i) ⟨Sub.of_eq (by simp only [Go.Cdc.encL_length]), (decide_eq_false c1), (rfl), trivial⟩


theorem cn_step_p1 (k : Int) (n : Int) (s : ByteArray) (l : List CV) (dep : Int) (m : Nat) (i : Nat) (c : Nat) (x : CV) : loopStep P G none 0 (loopAt P 32 0) (cnSt k n s l dep m i) [Orc.val (some 23) (int (↑(List.length l) : Int)), Orc.br true, Orc.br true, Orc.elem (enc x), Orc.val (some 38) (int (dep - 1)), Orc.call [] (AOut.ret (int (↑c : Int))) [], Orc.val (some 40) (int (↑(m + c) : Int)), Orc.val (some 30) (int (↑(i + 1) : Int))] (others 42 [1, 2, 5, 6]) 1 =
    some ({ env := slots 42 [(1, int dep), (2, AV.ptr 0 0), (5, int (↑(m + c) : Int)), (6, int (↑(i + 1) : Int))], H := [AObj.box [int k, int n, str s, AV.sl 4 false (encL l)]] }, [Am.Sub (int (↑(List.length (encL l)) : Int)) (int (↑(List.length l) : Int)), decide ((↑i : Int) < (↑(List.length l) : Int)) = true, decide ((↑m : Int) ≤ (1000 : Int)) = true, (0 : Int) ≤ (↑i : Int) ∧ (encL l)[Int.toNat (↑i : Int)]? = some (enc x), Am.Sub (int (IntKind.wrap IntKind.i64 (dep - 1))) (int (dep - 1)), CallC P G 32 [AV.agg [int (CV.k x), int (CV.n x), str (CV.s x), AV.sl 4 false (encL (CV.l x))], int (dep - 1)] [] (AOut.ret (int (↑c : Int))) [], Am.Sub (int (IntKind.wrap IntKind.i64 ((↑m : Int) + (↑c : Int)))) (int (↑(m + c) : Int)), Am.Sub (int (IntKind.wrap IntKind.i64 ((↑i : Int) + 1))) (int (↑(i + 1) : Int))]) := by kernel_rfl

theorem cn_step (k n : Int) (s : ByteArray) (l : List CV) (dep : Int) (m i c : Nat) (x : CV) (hd : -1 ≤ dep - 1 ∧ dep ≤ 1000) (hi : i < l.length) (hm : m ≤ 1000) (hl : l.length ≤ 9223372036854775807) (hx : l[i]? = some x) (hc : c ≤ 1000000000000000000) (hv : CallC P G 32 [val x, int (dep - 1)] [] (.ret (int (c : Int))) []) (ex : AEx) (s' : St) (h : RunL P G none 0 (loopAt P 32 0) { env := slots 42 [(1, int dep), (2, AV.ptr 0 0), (5, int (↑(m + c) : Int)), (6, int (↑(i + 1) : Int))], H := [AObj.box [int k, int n, str s, AV.sl 4 false (encL l)]] } ex s') : RunL P G none 0 (loopAt P 32 0) (cnSt k n s l dep m i) ex s' := by
  exact RunL.next _ _ _ (cn_step_p1 k n s l dep m i c x) ⟨Sub.of_eq (by simp only [Go.Cdc.encL_length]), (decide_eq_true (by omega)), (decide_eq_true (by omega)), (by rw [Go.Cdc.encL_map]; exact el_nat hx), Sub.of_wrap (by omega) (by omega) rfl, (@hv ), Sub.of_wrap (by omega) (by omega) (by omega), Sub.of_wrap (by omega) (by omega) (by omega), trivial⟩ h


theorem cnt_in_p1 (k : Int) (n : Int) (s : ByteArray) (l : List CV) (dep : Int) (c : Nat) : runF P G 32 [vmk k n s l, int dep] [] [Orc.val (some 10) (int (↑(ByteArray.size s / 200) : Int)), Orc.val (some 11) (int (↑(1 + ByteArray.size s / 200) : Int)), Orc.br false, Orc.val (some 17) (int (↑(List.length l) : Int)), Orc.br false, Orc.loop [0, 3, 4, 7, 8, 9, 10, 11, 12, 13, 14, 15, 16, 17, 18, 19, 20, 21, 22, 23, 24, 25, 26, 27, 28, 29, 30, 31, 32, 33, 34, 35, 36, 37, 38, 39, 40, 41] 1 (AEx.exit 0) [AV.dead, AV.dead, AV.dead, AV.dead, AV.dead, int (↑c : Int), AV.dead, AV.dead, AV.dead, AV.dead, AV.dead, AV.dead, AV.dead, AV.dead, AV.dead, AV.dead, AV.dead, AV.dead, AV.dead, AV.dead, AV.dead, AV.dead, AV.dead, AV.dead, AV.dead, AV.dead, AV.dead, AV.dead, AV.dead, AV.dead, AV.dead, AV.dead, AV.dead, AV.dead, AV.dead, AV.dead, AV.dead, AV.dead, AV.dead, AV.dead, AV.dead, AV.dead] [AObj.box [int k, int n, str s, AV.sl 4 false (encL l)]]] =
    some (AOut.ret (int (↑c : Int)), [], [Am.Sub (int (IntKind.wrap IntKind.i64 (Int.tdiv (↑(ByteArray.size s) : Int) 200))) (int (↑(ByteArray.size s / 200) : Int)), (200 : Int) ≠ (0 : Int), Am.Sub (int (IntKind.wrap IntKind.i64 (1 + (↑(ByteArray.size s / 200) : Int)))) (int (↑(1 + ByteArray.size s / 200) : Int)), decide (dep < (0 : Int)) = false, Am.Sub (int (↑(List.length (encL l)) : Int)) (int (↑(List.length l) : Int)), decide ((↑(List.length l) : Int) > (150 : Int)) = false, RunL P G none 0 (loopAt P 32 0) { env := slots 42 [(1, int dep), (2, AV.ptr 0 0), (5, int (↑(1 + ByteArray.size s / 200) : Int)), (6, int 0)], H := [AObj.box [int k, int n, str s, AV.sl 4 false (encL l)]] } (AEx.exit 0) { env := slots 42 [(5, int (↑c : Int))], H := [AObj.box [int k, int n, str s, AV.sl 4 false (encL l)]] }]) := by kernel_rfl

theorem cnt_in (k n : Int) (s : ByteArray) (l : List CV) (dep : Int) (c : Nat) (hs : s.size ≤ 9223372036854775807) (h1 : 0 ≤ dep) (h2 : l.length ≤ 150) (hL : RunL P G none 0 (loopAt P 32 0) (cnSt k n s l dep (1 + s.size / 200) 0) (.exit 0) { env := slots 42 [(5, int (c : Int))], H := [.box [int k, int n, str s, .sl 4 false (encL l)]] }) (h : True) : CallC P G 32 [vmk k n s l, int dep] [] (AOut.ret (int (↑c : Int))) [] := by
  have _ := h
  exact callC_of_run _ (cnt_in_p1 k n s l dep c) ⟨Sub.of_wrap (by simp only [Go.Cdc.tdiv_200]; omega) (by simp only [Go.Cdc.tdiv_200]; omega) (by simp only [Go.Cdc.tdiv_200]), (by omega), Sub.of_wrap (by omega) (by omega) (by omega), (decide_eq_false (by omega)), Sub.of_eq (by simp only [Go.Cdc.encL_length]), (decide_eq_false (by omega)), (@hL ), trivial⟩


theorem few_w_p1 (v : CV) (a : Int) : runF P G 21 [val v, int 20] [] [Orc.call [] (AOut.ret (int a)) []] =
    some (AOut.ret (Am.bool (decide (a ≤ (200 : Int)))), [], [CallC P G 32 [AV.agg [int (CV.k v), int (CV.n v), str (CV.s v), AV.sl 4 false (encL (CV.l v))], int 20] [] (AOut.ret (int a)) []]) := by kernel_rfl

theorem few_w (v : CV) (a : Int) (hv : CallC P G 32 [val v, int 20] [] (.ret (int a)) []) (b : Bool) (h : (decide (a ≤ (200 : Int))) = (b)) : CallC P G 21 [val v, int 20] [] (AOut.ret (Am.bool b)) [] := by
  have e1 := h
  exact CallC.out (callC_of_run _ (few_w_p1 v a) ⟨(@hv ), trivial⟩) (Sub.bool_eq e1)


def fwSt (v : CV) (i : Nat) : St := { env := slots 15 [(2, bool false), (5, .sl 4 false [enc v]), (6, int 1), (7, int i)], H := [] }

theorem fw_0_p1 (v : CV) (b : Bool) : loopStep P G none 0 (loopAt P 7 0) (fwSt v 0) [Orc.br true, Orc.elem [int (CV.k v), int (CV.n v), str (CV.s v), AV.sl 4 false (encL (CV.l v))], Orc.call [] (AOut.ret (Am.bool b)) [], Orc.br false] (others 15 [2, 5, 6, 7]) 0 =
    some ({ env := slots 15 [(2, Am.bool false), (5, AV.sl 4 false [[int (CV.k v), int (CV.n v), str (CV.s v), AV.sl 4 false (encL (CV.l v))]]), (6, int 1), (7, int 1)], H := [] }, [true = true, (0 : Int) ≤ (0 : Int) ∧ [enc v][Int.toNat (↑0 : Int)]? = some [int (CV.k v), int (CV.n v), str (CV.s v), AV.sl 4 false (encL (CV.l v))], CallC P G 21 [AV.agg [int (CV.k v), int (CV.n v), str (CV.s v), AV.sl 4 false (encL (CV.l v))], int 20] [] (AOut.ret (Am.bool b)) [], (!b) = false]) := by kernel_rfl

theorem fw_0_p2 (v : CV) (b : Bool) : loopExit P G none 0 (loopAt P 7 0) (fwSt v 0) [Orc.br true, Orc.elem [int (CV.k v), int (CV.n v), str (CV.s v), AV.sl 4 false (encL (CV.l v))], Orc.call [] (AOut.ret (Am.bool b)) [], Orc.br true] (others 15 []) 0 =
    some (AEx.ret, { env := slots 15 [], H := [] }, [true = true, (0 : Int) ≤ (0 : Int) ∧ [enc v][Int.toNat (↑0 : Int)]? = some [int (CV.k v), int (CV.n v), str (CV.s v), AV.sl 4 false (encL (CV.l v))], CallC P G 21 [AV.agg [int (CV.k v), int (CV.n v), str (CV.s v), AV.sl 4 false (encL (CV.l v))], int 20] [] (AOut.ret (Am.bool b)) [], (!b) = true]) := by kernel_rfl

theorem fw_0 (v : CV) (b : Bool) (hv : CallC P G 21 [val v, int 20] [] (.ret (bool b)) []) (ex : AEx) (s' : St) (h : ((((b) = true) → RunL P G none 0 (loopAt P 7 0) { env := slots 15 [(2, Am.bool false), (5, AV.sl 4 false [[int (CV.k v), int (CV.n v), str (CV.s v), AV.sl 4 false (encL (CV.l v))]]), (6, int 1), (7, int 1)], H := [] } ex s') ∧ (((b) = false) → (AEx.ret = ex) ∧ ({ env := slots 15 [], H := [] } = s')))) : RunL P G none 0 (loopAt P 7 0) (fwSt v 0) ex s' := by
  rcases Bool.eq_false_or_eq_true ((b)) with c1 | c1
  · have h := h.1 c1
    exact RunL.next _ _ _ (fw_0_p1 v b) ⟨(rfl), ⟨by decide, rfl⟩, (@hv ), (congrArg Bool.not (c1)), trivial⟩ h
  · have h := h.2 c1
    obtain ⟨eX, eS⟩ := h
    exact RunL.to (RunL.exit _ _ _ (fw_0_p2 v b) ⟨(rfl), ⟨by decide, rfl⟩, (@hv ), (congrArg Bool.not (c1)), trivial⟩) eX (SubS.of_eq eS)


theorem fw_1_p1 (v : CV) : loopExit P G none 0 (loopAt P 7 0) (fwSt v 1) [Orc.br false] (others 15 []) 0 =
    some (AEx.exit 0, { env := slots 15 [], H := [] }, [false = false]) := by kernel_rfl

theorem fw_1 (v : CV) (ex : AEx) (s' : St) (h : (AEx.exit 0 = ex) ∧ ({ env := slots 15 [], H := [] } = s')) : RunL P G none 0 (loopAt P 7 0) (fwSt v 1) ex s' := by
  obtain ⟨eX, eS⟩ := h
  exact RunL.to (RunL.exit _ _ _ (fw_1_p1 v) ⟨(rfl), trivial⟩) eX (SubS.of_eq eS)


/-! The contracts -/
theorem rf_loop (n : Int) (s : ByteArray) (l : List CV) (hl : l.length ≤ 9223372036854775807) (hv : ∀ x ∈ l, CallC P G 25 [val x] [] (.ret (bool (wf x))) []) : ∀ (m i : Nat), l.length - i = m → i ≤ l.length →
    RunL P G none 0 (loopAt P 25 0) (rfSt n s l i) (if wfL (l.drop i) = true then .exit 1 else .ret) { env := slots 52 [(1, .ptr 0 0), (2, bool false)], H := [.box [int 3, int n, str s, .sl 4 false (encL l)]] } := by
  intro m
  induction m with
  | zero =>
    intro i hm hi
    rw [List.drop_of_length_le (by omega)]
    simp only [wfL, if_true]
    exact rf_end n s l i (by omega) trivial
  | succ m ih =>
    intro i hm hi
    have hlt : i < l.length := by omega
    have e := List.drop_eq_getElem_cons hlt
    refine rf_step n s l i l[i] hlt hl (List.getElem?_eq_getElem hlt) (hv _ (List.getElem_mem hlt)) _ ⟨fun h => ?_, fun h => ?_⟩
    · rw [e]; simp only [wfL, h, Bool.true_and]; exact ih (i + 1) (by omega) (by omega)
    · rw [e]; simp [wfL, h]
theorem rformed_c (v : CV) : Okv v → CallC P G 25 [val v] [] (.ret (bool (wf v))) [] := by
  refine CV.ind (p := fun v => Okv v → CallC P G 25 [val v] [] (.ret (bool (wf v))) []) (fun k n s l ih hok => ?_) v
  cases hok with
  | mk _ _ _ _ hn hs hl hall =>
    rw [val_mk]
    by_cases h1 : k = 1
    · subst h1
      have ew : wf (.mk 1 n s l) = (decide (s = .empty) && decide (l.length = 0)) := by simp [wf]
      rw [ew]
      refine rf1_w n s l _ ⟨fun a => ?_, fun a => ?_⟩
      · rw [decide_eq_true (show s = .empty from a), Bool.true_and]
        by_cases h : l.length = 0 <;> simp [h]
      · rw [decide_eq_false (show ¬ s = .empty from a)]; rfl
    · by_cases h2 : k = 2
      · subst h2
        have ew : wf (.mk 2 n s l) = (decide (n = 0) && decide (l.length = 0)) := by simp [wf]
        rw [ew]
        refine rf2_w n s l _ ⟨fun a => ?_, fun a => ?_⟩
        · rw [decide_eq_true a, Bool.true_and]
          by_cases h : l.length = 0 <;> simp [h]
        · rw [decide_eq_false a]; rfl
      · by_cases h3 : k = 3
        · subst h3
          have ew : wf (.mk 3 n s l) = (decide (n = 0) && decide (s = .empty) && wfL l) := by simp [wf]
          rw [ew]
          have hL := rf_loop n s l hl (fun x hx => ih x hx (hall x hx)) l.length 0 (by omega) (by omega)
          rw [List.drop_zero] at hL
          refine rf3_w n s l _ hL ⟨fun hw => ⟨fun a => ?_, fun a => ?_⟩, fun hw => ?_⟩
          · rw [hw, decide_eq_true a]; simp [empty_eq]
          · rw [decide_eq_false a]; simp
          · rw [Bool.eq_false_iff.2 hw]; simp
        · have e : wf (.mk k n s l) = false := by simp [wf, h1, h2, h3]
          rw [e]
          exact rfx_w k n s l h1 h2 h3 trivial

theorem rd_loop (n : Int) (s : ByteArray) (l : List CV) (hl : l.length ≤ 9223372036854775807) (hv : ∀ x ∈ l, CallC P G 26 [val x] [] (.ret (int (dp x : Int))) []) : ∀ (m i d : Nat), l.length - i = m → i ≤ l.length →
    RunL P G none 0 (loopAt P 26 0) (rdSt n s l d i) (.exit 0) { env := slots 25 [(3, int ((max d (dpL (l.drop i)) : Nat) : Int))], H := [.box [int 3, int n, str s, .sl 4 false (encL l)]] } := by
  intro m
  induction m with
  | zero =>
    intro i d hm hi
    rw [List.drop_of_length_le (by omega)]
    simp only [dpL, Nat.max_zero]
    exact rd_end n s l d i (by omega) trivial
  | succ m ih =>
    intro i d hm hi
    have hlt : i < l.length := by omega
    have e := List.drop_eq_getElem_cons hlt
    refine rd_step n s l d i l[i] hlt hl (List.getElem?_eq_getElem hlt) (hv _ (List.getElem_mem hlt)) _ _ ?_
    have := ih (i + 1) (max d (dp l[i])) (by omega) (by omega)
    rw [e]
    simp only [dpL]
    have e2 : (if ((dp l[i] : Nat) : Int) > (d : Int) then ((dp l[i] : Nat) : Int) else (d : Int)) = ((max d (dp l[i]) : Nat) : Int) := by
      split <;> omega
    rw [e2, show max d (max (dp l[i]) (dpL (l.drop (i + 1)))) = max (max d (dp l[i])) (dpL (l.drop (i + 1))) by omega]
    unfold rdSt at this
    exact this
theorem rdepth_c (v : CV) : Okv v → dp v ≤ 1000001 → CallC P G 26 [val v] [] (.ret (int (dp v : Int))) [] := by
  refine CV.ind (p := fun v => Okv v → dp v ≤ 1000001 → CallC P G 26 [val v] [] (.ret (int (dp v : Int))) []) (fun k n s l ih hok hd => ?_) v
  cases hok with
  | mk _ _ _ _ hn hs hl hall =>
    rw [val_mk]
    by_cases h3 : k = 3
    · subst h3
      have hd3 : dpL l ≤ 1000000 := by simp only [dp, if_true] at hd; omega
      have hL := rd_loop n s l hl (fun x hx => ih x hx (hall x hx) (by have := dp_mem hx; omega)) l.length 0 0 (by omega) (by omega)
      rw [List.drop_zero, Nat.zero_max] at hL
      have ed : dp (.mk 3 n s l) = dpL l + 1 := by simp [dp]
      rw [ed]
      exact rd3_w n s l _ (by omega) hL rfl
    · have e : dp (.mk k n s l) = 0 := by simp [dp, h3]
      rw [e]
      exact rdx_w k n s l h3 trivial
theorem rcheck_c (v : CV) (hok : Okv v) (hd : dp v ≤ 1000001) : CallC P G 13 [val v] [] (.ret (int (chkE v))) [] := by
  refine rcheck_w v _ hd (rformed_c v hok) (rdepth_c v hok hd) ⟨fun h => ⟨fun h2 => ?_, fun h2 => ?_⟩, fun h => ?_⟩
  · simp only [chkE, h, if_true]; rw [if_pos (by omega)]
  · simp only [chkE, h, if_true]; rw [if_neg (by omega)]
  · simp [chkE, h]

/-! Few -/
theorem cnt_le (v : CV) : Okv v → ∀ d : Int, -1 ≤ d → d ≤ 30 → (cnt d v : Int) ≤ 24000000000000000 * (d + 2) := by
  refine CV.ind (p := fun v => Okv v → ∀ d : Int, -1 ≤ d → d ≤ 30 → (cnt d v : Int) ≤ 24000000000000000 * (d + 2)) (fun k n s l ih hok d h1 h2 => ?_) v
  cases hok with
  | mk _ _ _ _ hn hs hl hall =>
    simp only [cnt]
    split
    · omega
    · rename_i hc
      have key : ∀ (l : List CV) (m : Nat), (∀ x ∈ l, (cnt (d - 1) x : Int) ≤ 24000000000000000 * (d + 1)) → (m : Int) ≤ 24000000000000000 * (d + 2) → (cntL d l m : Int) ≤ 24000000000000000 * (d + 2) := by
        intro l
        induction l with
        | nil => intro m _ hm; exact hm
        | cons x l ihl =>
          intro m hx hm
          simp only [cntL]
          split
          · have := hx x (by simp)
            exact ihl _ (fun y hy => hx y (by simp [hy])) (by omega)
          · exact hm
      refine key l _ (fun x hx => ?_) (by omega)
      have := ih x hx (hall x hx) (d - 1) (by omega) (by omega)
      omega
theorem cn_loop (k n : Int) (s : ByteArray) (l : List CV) (dep : Int) (hd : 0 ≤ dep ∧ dep ≤ 30) (hl : l.length ≤ 9223372036854775807) (hok : ∀ x ∈ l, Okv x) (hv : ∀ x ∈ l, CallC P G 32 [val x, int (dep - 1)] [] (.ret (int (cnt (dep - 1) x : Int))) []) : ∀ (r i m : Nat), l.length - i = r → i ≤ l.length →
    RunL P G none 0 (loopAt P 32 0) (cnSt k n s l dep m i) (.exit 0) { env := slots 42 [(5, int ((cntL dep (l.drop i) m : Nat) : Int))], H := [.box [int k, int n, str s, .sl 4 false (encL l)]] } := by
  have done : ∀ (i m : Nat), l.length ≤ i ∨ 1000 < m → RunL P G none 0 (loopAt P 32 0) (cnSt k n s l dep m i) (.exit 0) { env := slots 42 [(5, int m)], H := [.box [int k, int n, str s, .sl 4 false (encL l)]] } := fun i m h =>
    cn_end k n s l dep m i h ⟨fun _ => trivial, fun _ => trivial⟩
  intro r
  induction r with
  | zero =>
    intro i m hm hi
    rw [List.drop_of_length_le (by omega)]
    exact done i m (.inl (by omega))
  | succ r ih =>
    intro i m hm hi
    have hlt : i < l.length := by omega
    have e := List.drop_eq_getElem_cons hlt
    have hmem : l[i] ∈ l := List.getElem_mem hlt
    rw [e]
    simp only [cntL]
    by_cases h : m ≤ 1000
    · rw [if_pos h]
      have hb := cnt_le l[i] (hok _ hmem) (dep - 1) (by omega) (by omega)
      refine cn_step k n s l dep m i (cnt (dep - 1) l[i]) l[i] (by omega) hlt h hl (List.getElem?_eq_getElem hlt) (by omega) (hv _ hmem) _ _ ?_
      exact ih (i + 1) _ (by omega) (by omega)
    · rw [if_neg h]
      exact done i m (.inr (by omega))
theorem count_c (v : CV) : Okv v → ∀ d : Int, -1 ≤ d → d ≤ 30 → CallC P G 32 [val v, int d] [] (.ret (int (cnt d v : Int))) [] := by
  refine CV.ind (p := fun v => Okv v → ∀ d : Int, -1 ≤ d → d ≤ 30 → CallC P G 32 [val v, int d] [] (.ret (int (cnt d v : Int))) []) (fun k n s l ih hok d h1 h2 => ?_) v
  cases hok with
  | mk _ _ _ _ hn hs hl hall =>
    rw [val_mk]
    by_cases h : d < 0 ∨ 150 < l.length
    · have e : cnt d (.mk k n s l) = 1000 := by simp only [cnt]; rw [if_pos h]
      rw [e]
      exact cnt_out k n s l d hs h ⟨fun _ => trivial, fun _ => trivial⟩
    · have e : cnt d (.mk k n s l) = cntL d l (1 + s.size / 200) := by simp only [cnt]; rw [if_neg h]
      rw [e]
      have hL := cn_loop k n s l d (by omega) hl hall (fun x hx => ih x hx (hall x hx) (d - 1) (by omega) (by omega)) l.length 0 (1 + s.size / 200) (by omega) (by omega)
      rw [List.drop_zero] at hL
      exact cnt_in k n s l d _ hs (by omega) (by omega) hL trivial
def fewB (v : CV) : Bool := decide (cnt 20 v ≤ 200)
theorem few_c (v : CV) (hok : Okv v) : CallC P G 21 [val v, int 20] [] (.ret (bool (fewB v))) [] :=
  few_w v _ (count_c v hok 20 (by omega) (by omega)) _ (by simp only [fewB]; exact decide_eq_decide.2 (by omega))

end Go.Cdc
