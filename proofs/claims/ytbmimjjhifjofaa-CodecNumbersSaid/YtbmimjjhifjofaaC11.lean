/- CODEC, 11: the reference's reader: next, number. -/
import Derived.KernelRfl
import Derived.Test.YtbmimjjhifjofaaC10
namespace Go.Cdc
set_option linter.unusedSimpArgs false
set_option linter.unusedVariables false
open Go Go.Am Go.Proofs

/-- The reference's reader. -/
def rr (b : List UInt8) (at' : Nat) (bad : Bool) : List AObj := [.box [byt b, int at', bool bad]]

theorem nx_end_p1 (b : List UInt8) (i : Nat) (bad : Bool) : runF P G 44 [AV.ptr 0 0] (rr b i bad) [Orc.val (some 11) (int (↑(List.length b) : Int)), Orc.br true] =
    some (AOut.ret (AV.lit (Value.int IntKind.u8 0)), [AObj.box [AV.sl 1 false (bys b), int (↑i : Int), Am.bool true]], [Am.Sub (int (↑(List.length (bys b)) : Int)) (int (↑(List.length b) : Int)), decide ((↑i : Int) ≥ (↑(List.length b) : Int)) = true]) := by kernel_rfl

theorem nx_end (b : List UInt8) (i : Nat) (bad : Bool) (hi : b.length ≤ i) (h : True) : CallC P G 44 [AV.ptr 0 0] (rr b i bad) (AOut.ret (u8 0)) (rr b i true) := by
  have _ := h
  exact callC_of_run _ (nx_end_p1 b i bad) ⟨Sub.of_eq (by simp only [Go.Cdc.bys_length]), (decide_eq_true (by omega)), trivial⟩


theorem nx_ok_p1 (b : List UInt8) (i : Nat) (bad : Bool) (x2 : UInt8) : runF P G 44 [AV.ptr 0 0] (rr b i bad) [Orc.val (some 11) (int (↑(List.length b) : Int)), Orc.br false, Orc.val (some 20) (int (↑(i + 1) : Int)), Orc.val (some 31) (int ((↑(i + 1) : Int) - 1)), Orc.elem (byt1 x2)] =
    some (AOut.ret (AV.lit (Value.int IntKind.u8 (↑(UInt8.toNat x2) : Int))), [AObj.box [AV.sl 1 false (bys b), int (↑(i + 1) : Int), Am.bool bad]], [Am.Sub (int (↑(List.length (bys b)) : Int)) (int (↑(List.length b) : Int)), decide ((↑i : Int) ≥ (↑(List.length b) : Int)) = false, Am.Sub (int (IntKind.wrap IntKind.i64 ((↑i : Int) + 1))) (int (↑(i + 1) : Int)), Am.Sub (int (IntKind.wrap IntKind.i64 ((↑(i + 1) : Int) - 1))) (int ((↑(i + 1) : Int) - 1)), (0 : Int) ≤ (↑(i + 1) : Int) - 1 ∧ (bys b)[Int.toNat ((↑(i + 1) : Int) - 1)]? = some (byt1 x2)]) := by kernel_rfl

theorem nx_ok (b : List UInt8) (i : Nat) (bad : Bool) (c : UInt8) (hi : i < b.length) (hl : b.length ≤ 1000000000) (hx : b[i]? = some c) (h : (∃ x2 : UInt8, ((0 : Int) ≤ (↑(i + 1) : Int) - 1 ∧ b[Int.toNat ((↑(i + 1) : Int) - 1)]? = some x2) ∧ ((↑(UInt8.toNat x2) : Int) : Int) = ((↑(UInt8.toNat c) : Int)))) : CallC P G 44 [AV.ptr 0 0] (rr b i bad) (AOut.ret (u8 c)) (rr b (i + 1) bad) := by
  obtain ⟨x2, o3, h⟩ := h
  have e1 := h
  exact CallC.out (callC_of_run _ (nx_ok_p1 b i bad x2) ⟨Sub.of_eq (by simp only [Go.Cdc.bys_length]), (decide_eq_false (by omega)), Sub.of_wrap (by omega) (by omega) (by omega), Sub.of_wrap (by omega) (by omega) rfl, (el_int o3), trivial⟩) (Sub.int_eq e1)


def rnSt (b : List UInt8) (a u i : Nat) : St := { env := slots 43 [(0, .ptr 0 0), (2, u64 0), (3, u64 u), (4, int i)], H := rr b a false }

theorem rn_end_p1 (b : List UInt8) (a : Nat) (u : Nat) (i : Nat) : loopExit P G none 1 (loopAt P 45 0) (rnSt b a u i) [Orc.br true, Orc.call [0] (AOut.ret (u8 0)) (rr b a true), Orc.br true, Orc.br false, Orc.br true, Orc.br true] (others 43 [2]) 1 =
    some (AEx.ret, { env := slots 43 [(2, AV.lit (Value.int IntKind.u64 0))], H := [AObj.box [AV.sl 1 false (bys b), int (↑a : Int), Am.bool true]] }, [true = true, CallC P G 44 [AV.ptr 0 0] [AObj.box [AV.sl 1 false (bys b), int (↑a : Int), Am.bool false]] (AOut.ret (AV.lit (Value.int IntKind.u8 0))) [AObj.box [AV.sl 1 false (bys b), int (↑a : Int), Am.bool true]], ((↑i : Int) == 9) = true, false = false, decide ((↑i : Int) > (0 : Int)) = true, true = true]) := by kernel_rfl

theorem rn_end_p2 (b : List UInt8) (a : Nat) (u : Nat) (i : Nat) : loopExit P G none 1 (loopAt P 45 0) (rnSt b a u i) [Orc.br true, Orc.call [0] (AOut.ret (u8 0)) (rr b a true), Orc.br false, Orc.br false, Orc.br true, Orc.br true] (others 43 [2]) 1 =
    some (AEx.ret, { env := slots 43 [(2, AV.lit (Value.int IntKind.u64 0))], H := [AObj.box [AV.sl 1 false (bys b), int (↑a : Int), Am.bool true]] }, [true = true, CallC P G 44 [AV.ptr 0 0] [AObj.box [AV.sl 1 false (bys b), int (↑a : Int), Am.bool false]] (AOut.ret (AV.lit (Value.int IntKind.u8 0))) [AObj.box [AV.sl 1 false (bys b), int (↑a : Int), Am.bool true]], ((↑i : Int) == 9) = false, false = false, decide ((↑i : Int) > (0 : Int)) = true, true = true]) := by kernel_rfl

theorem rn_end_p3 (b : List UInt8) (a : Nat) (u : Nat) (i : Nat) : loopExit P G none 1 (loopAt P 45 0) (rnSt b a u i) [Orc.br true, Orc.call [0] (AOut.ret (u8 0)) (rr b a true), Orc.br false, Orc.br false, Orc.br false, Orc.br false, Orc.val (some 37) (int (7 * (↑i : Int))), Orc.br true] (others 43 [2]) 1 =
    some (AEx.ret, { env := slots 43 [(2, AV.lit (Value.int IntKind.u64 (IntKind.wrap IntKind.u64 ((↑u : Int) + IntKind.wrap IntKind.u64 (0 * 2 ^ min (Int.toNat (7 * (↑i : Int))) (IntKind.bits IntKind.u64))))))], H := [AObj.box [AV.sl 1 false (bys b), int (↑a : Int), Am.bool true]] }, [true = true, CallC P G 44 [AV.ptr 0 0] [AObj.box [AV.sl 1 false (bys b), int (↑a : Int), Am.bool false]] (AOut.ret (AV.lit (Value.int IntKind.u8 0))) [AObj.box [AV.sl 1 false (bys b), int (↑a : Int), Am.bool true]], ((↑i : Int) == 9) = false, false = false, decide ((↑i : Int) > (0 : Int)) = false, false = false, (128 : Int) ≠ (0 : Int), Am.Sub (int (IntKind.wrap IntKind.i64 (7 * (↑i : Int)))) (int (7 * (↑i : Int))), (0 : Int) ≤ 7 * (↑i : Int), true = true]) := by kernel_rfl

theorem rn_end (b : List UInt8) (a u i : Nat) (ha : b.length ≤ a) (hi : i ≤ 9) (hu : u < 18446744073709551616) (hu0 : i = 0 → u = 0) (h : ((((↑i : Int) = (9 : Int)) → True) ∧ ((¬(↑i : Int) = (9 : Int)) → ((((↑i : Int) > (0 : Int)) → True) ∧ ((¬(↑i : Int) > (0 : Int)) → (IntKind.wrap IntKind.u64 ((↑u : Int) + IntKind.wrap IntKind.u64 (0 * 2 ^ min (Int.toNat (7 * (↑i : Int))) (IntKind.bits IntKind.u64))) : Int) = ((↑0 : Int))))))) : RunL P G none 1 (loopAt P 45 0) (rnSt b a u i) AEx.ret { env := slots 43 [(2, u64 0)], H := rr b a true } := by
  by_cases c1 : ((↑i : Int) = (9 : Int))
  · have h := h.1 c1
    have _ := h
    exact RunL.exit _ _ _ (rn_end_p1 b a u i) ⟨(rfl), (@Go.Cdc.nx_end (b) (a) (false) (by omega) (trivial)), (beq_iff_eq.2 c1), (rfl), (decide_eq_true (by omega)), (rfl), trivial⟩
  · have h := h.2 c1
    by_cases c3 : ((↑i : Int) > (0 : Int))
    · have h := h.1 c3
      have _ := h
      exact RunL.exit _ _ _ (rn_end_p2 b a u i) ⟨(rfl), (@Go.Cdc.nx_end (b) (a) (false) (by omega) (trivial)), (beq_eq_false_iff_ne.2 c1), (rfl), (decide_eq_true c3), (rfl), trivial⟩
    · have h := h.2 c3
      have e1 := h
      exact RunL.to (RunL.exit _ _ _ (rn_end_p3 b a u i) ⟨(rfl), (@Go.Cdc.nx_end (b) (a) (false) (by omega) (trivial)), (beq_eq_false_iff_ne.2 c1), (rfl), (decide_eq_false c3), (rfl), (by omega), Sub.of_wrap (by omega) (by omega) rfl, (by omega), (rfl), trivial⟩) rfl (SubS.slots ⟨rfl, (Sub.int_eq e1), trivial⟩)


theorem rn_step_p1 (b : List UInt8) (a : Nat) (u : Nat) (i : Nat) (c : UInt8) : loopExit P G none 1 (loopAt P 45 0) (rnSt b a u i) [Orc.br true, Orc.call [0] (AOut.ret (u8 c)) (rr b (a + 1) false), Orc.br true, Orc.br true, Orc.br true] (others 43 [2]) 1 =
    some (AEx.ret, { env := slots 43 [(2, AV.lit (Value.int IntKind.u64 0))], H := [AObj.box [AV.sl 1 false (bys b), int (↑(a + 1) : Int), Am.bool true]] }, [true = true, CallC P G 44 [AV.ptr 0 0] [AObj.box [AV.sl 1 false (bys b), int (↑a : Int), Am.bool false]] (AOut.ret (AV.lit (Value.int IntKind.u8 (↑(UInt8.toNat c) : Int)))) [AObj.box [AV.sl 1 false (bys b), int (↑(a + 1) : Int), Am.bool false]], ((↑i : Int) == 9) = true, decide ((↑(UInt8.toNat c) : Int) > (1 : Int)) = true, true = true]) := by kernel_rfl

theorem rn_step_p2 (b : List UInt8) (a : Nat) (u : Nat) (i : Nat) (c : UInt8) : loopExit P G none 1 (loopAt P 45 0) (rnSt b a u i) [Orc.br true, Orc.call [0] (AOut.ret (u8 c)) (rr b (a + 1) false), Orc.br true, Orc.br false, Orc.br true, Orc.br true] (others 43 [2]) 1 =
    some (AEx.ret, { env := slots 43 [(2, AV.lit (Value.int IntKind.u64 0))], H := [AObj.box [AV.sl 1 false (bys b), int (↑(a + 1) : Int), Am.bool true]] }, [true = true, CallC P G 44 [AV.ptr 0 0] [AObj.box [AV.sl 1 false (bys b), int (↑a : Int), Am.bool false]] (AOut.ret (AV.lit (Value.int IntKind.u8 (↑(UInt8.toNat c) : Int)))) [AObj.box [AV.sl 1 false (bys b), int (↑(a + 1) : Int), Am.bool false]], ((↑i : Int) == 9) = true, decide ((↑(UInt8.toNat c) : Int) > (1 : Int)) = false, decide ((↑i : Int) > (0 : Int)) = true, ((↑(UInt8.toNat c) : Int) == 0) = true]) := by kernel_rfl

theorem rn_step_p3 (b : List UInt8) (a : Nat) (u : Nat) (i : Nat) (c : UInt8) : loopExit P G none 1 (loopAt P 45 0) (rnSt b a u i) [Orc.br true, Orc.call [0] (AOut.ret (u8 c)) (rr b (a + 1) false), Orc.br true, Orc.br false, Orc.br true, Orc.br false, Orc.val (some 37) (int (7 * (↑i : Int))), Orc.br true] (others 43 [2]) 1 =
    some (AEx.ret, { env := slots 43 [(2, AV.lit (Value.int IntKind.u64 (IntKind.wrap IntKind.u64 ((↑u : Int) + IntKind.wrap IntKind.u64 (IntKind.wrap IntKind.u64 (Int.tmod (↑(UInt8.toNat c) : Int) 128) * 2 ^ min (Int.toNat (7 * (↑i : Int))) (IntKind.bits IntKind.u64))))))], H := [AObj.box [AV.sl 1 false (bys b), int (↑(a + 1) : Int), Am.bool false]] }, [true = true, CallC P G 44 [AV.ptr 0 0] [AObj.box [AV.sl 1 false (bys b), int (↑a : Int), Am.bool false]] (AOut.ret (AV.lit (Value.int IntKind.u8 (↑(UInt8.toNat c) : Int)))) [AObj.box [AV.sl 1 false (bys b), int (↑(a + 1) : Int), Am.bool false]], ((↑i : Int) == 9) = true, decide ((↑(UInt8.toNat c) : Int) > (1 : Int)) = false, decide ((↑i : Int) > (0 : Int)) = true, ((↑(UInt8.toNat c) : Int) == 0) = false, (128 : Int) ≠ (0 : Int), Am.Sub (int (IntKind.wrap IntKind.i64 (7 * (↑i : Int)))) (int (7 * (↑i : Int))), (0 : Int) ≤ 7 * (↑i : Int), decide ((↑(UInt8.toNat c) : Int) < (128 : Int)) = true]) := by kernel_rfl

theorem rn_step_p4 (b : List UInt8) (a : Nat) (u : Nat) (i : Nat) (c : UInt8) : loopExit P G none 1 (loopAt P 45 0) (rnSt b a u i) [Orc.br true, Orc.call [0] (AOut.ret (u8 c)) (rr b (a + 1) false), Orc.br false, Orc.br false, Orc.br true, Orc.br true] (others 43 [2]) 1 =
    some (AEx.ret, { env := slots 43 [(2, AV.lit (Value.int IntKind.u64 0))], H := [AObj.box [AV.sl 1 false (bys b), int (↑(a + 1) : Int), Am.bool true]] }, [true = true, CallC P G 44 [AV.ptr 0 0] [AObj.box [AV.sl 1 false (bys b), int (↑a : Int), Am.bool false]] (AOut.ret (AV.lit (Value.int IntKind.u8 (↑(UInt8.toNat c) : Int)))) [AObj.box [AV.sl 1 false (bys b), int (↑(a + 1) : Int), Am.bool false]], ((↑i : Int) == 9) = false, false = false, decide ((↑i : Int) > (0 : Int)) = true, ((↑(UInt8.toNat c) : Int) == 0) = true]) := by kernel_rfl

theorem rn_step_p5 (b : List UInt8) (a : Nat) (u : Nat) (i : Nat) (c : UInt8) : loopExit P G none 1 (loopAt P 45 0) (rnSt b a u i) [Orc.br true, Orc.call [0] (AOut.ret (u8 c)) (rr b (a + 1) false), Orc.br false, Orc.br false, Orc.br true, Orc.br false, Orc.val (some 37) (int (7 * (↑i : Int))), Orc.br true] (others 43 [2]) 1 =
    some (AEx.ret, { env := slots 43 [(2, AV.lit (Value.int IntKind.u64 (IntKind.wrap IntKind.u64 ((↑u : Int) + IntKind.wrap IntKind.u64 (IntKind.wrap IntKind.u64 (Int.tmod (↑(UInt8.toNat c) : Int) 128) * 2 ^ min (Int.toNat (7 * (↑i : Int))) (IntKind.bits IntKind.u64))))))], H := [AObj.box [AV.sl 1 false (bys b), int (↑(a + 1) : Int), Am.bool false]] }, [true = true, CallC P G 44 [AV.ptr 0 0] [AObj.box [AV.sl 1 false (bys b), int (↑a : Int), Am.bool false]] (AOut.ret (AV.lit (Value.int IntKind.u8 (↑(UInt8.toNat c) : Int)))) [AObj.box [AV.sl 1 false (bys b), int (↑(a + 1) : Int), Am.bool false]], ((↑i : Int) == 9) = false, false = false, decide ((↑i : Int) > (0 : Int)) = true, ((↑(UInt8.toNat c) : Int) == 0) = false, (128 : Int) ≠ (0 : Int), Am.Sub (int (IntKind.wrap IntKind.i64 (7 * (↑i : Int)))) (int (7 * (↑i : Int))), (0 : Int) ≤ 7 * (↑i : Int), decide ((↑(UInt8.toNat c) : Int) < (128 : Int)) = true]) := by kernel_rfl

theorem rn_step_p6 (b : List UInt8) (a : Nat) (u : Nat) (i : Nat) (c : UInt8) : loopStep P G none 1 (loopAt P 45 0) (rnSt b a u i) [Orc.br true, Orc.call [0] (AOut.ret (u8 c)) (rr b (a + 1) false), Orc.br false, Orc.br false, Orc.br true, Orc.br false, Orc.val (some 37) (int (7 * (↑i : Int))), Orc.br false, Orc.val (some 12) (int (↑(i + 1) : Int))] (others 43 [0, 2, 3, 4]) 1 =
    some ({ env := slots 43 [(0, AV.ptr 0 0), (2, AV.lit (Value.int IntKind.u64 0)), (3, AV.lit (Value.int IntKind.u64 (IntKind.wrap IntKind.u64 ((↑u : Int) + IntKind.wrap IntKind.u64 (IntKind.wrap IntKind.u64 (Int.tmod (↑(UInt8.toNat c) : Int) 128) * 2 ^ min (Int.toNat (7 * (↑i : Int))) (IntKind.bits IntKind.u64)))))), (4, int (↑(i + 1) : Int))], H := [AObj.box [AV.sl 1 false (bys b), int (↑(a + 1) : Int), Am.bool false]] }, [true = true, CallC P G 44 [AV.ptr 0 0] [AObj.box [AV.sl 1 false (bys b), int (↑a : Int), Am.bool false]] (AOut.ret (AV.lit (Value.int IntKind.u8 (↑(UInt8.toNat c) : Int)))) [AObj.box [AV.sl 1 false (bys b), int (↑(a + 1) : Int), Am.bool false]], ((↑i : Int) == 9) = false, false = false, decide ((↑i : Int) > (0 : Int)) = true, ((↑(UInt8.toNat c) : Int) == 0) = false, (128 : Int) ≠ (0 : Int), Am.Sub (int (IntKind.wrap IntKind.i64 (7 * (↑i : Int)))) (int (7 * (↑i : Int))), (0 : Int) ≤ 7 * (↑i : Int), decide ((↑(UInt8.toNat c) : Int) < (128 : Int)) = false, Am.Sub (int (IntKind.wrap IntKind.i64 ((↑i : Int) + 1))) (int (↑(i + 1) : Int))]) := by kernel_rfl

theorem rn_step_p7 (b : List UInt8) (a : Nat) (u : Nat) (i : Nat) (c : UInt8) : loopExit P G none 1 (loopAt P 45 0) (rnSt b a u i) [Orc.br true, Orc.call [0] (AOut.ret (u8 c)) (rr b (a + 1) false), Orc.br false, Orc.br false, Orc.br false, Orc.br false, Orc.val (some 37) (int (7 * (↑i : Int))), Orc.br true] (others 43 [2]) 1 =
    some (AEx.ret, { env := slots 43 [(2, AV.lit (Value.int IntKind.u64 (IntKind.wrap IntKind.u64 ((↑u : Int) + IntKind.wrap IntKind.u64 (IntKind.wrap IntKind.u64 (Int.tmod (↑(UInt8.toNat c) : Int) 128) * 2 ^ min (Int.toNat (7 * (↑i : Int))) (IntKind.bits IntKind.u64))))))], H := [AObj.box [AV.sl 1 false (bys b), int (↑(a + 1) : Int), Am.bool false]] }, [true = true, CallC P G 44 [AV.ptr 0 0] [AObj.box [AV.sl 1 false (bys b), int (↑a : Int), Am.bool false]] (AOut.ret (AV.lit (Value.int IntKind.u8 (↑(UInt8.toNat c) : Int)))) [AObj.box [AV.sl 1 false (bys b), int (↑(a + 1) : Int), Am.bool false]], ((↑i : Int) == 9) = false, false = false, decide ((↑i : Int) > (0 : Int)) = false, false = false, (128 : Int) ≠ (0 : Int), Am.Sub (int (IntKind.wrap IntKind.i64 (7 * (↑i : Int)))) (int (7 * (↑i : Int))), (0 : Int) ≤ 7 * (↑i : Int), decide ((↑(UInt8.toNat c) : Int) < (128 : Int)) = true]) := by kernel_rfl

theorem rn_step_p8 (b : List UInt8) (a : Nat) (u : Nat) (i : Nat) (c : UInt8) : loopStep P G none 1 (loopAt P 45 0) (rnSt b a u i) [Orc.br true, Orc.call [0] (AOut.ret (u8 c)) (rr b (a + 1) false), Orc.br false, Orc.br false, Orc.br false, Orc.br false, Orc.val (some 37) (int (7 * (↑i : Int))), Orc.br false, Orc.val (some 12) (int (↑(i + 1) : Int))] (others 43 [0, 2, 3, 4]) 1 =
    some ({ env := slots 43 [(0, AV.ptr 0 0), (2, AV.lit (Value.int IntKind.u64 0)), (3, AV.lit (Value.int IntKind.u64 (IntKind.wrap IntKind.u64 ((↑u : Int) + IntKind.wrap IntKind.u64 (IntKind.wrap IntKind.u64 (Int.tmod (↑(UInt8.toNat c) : Int) 128) * 2 ^ min (Int.toNat (7 * (↑i : Int))) (IntKind.bits IntKind.u64)))))), (4, int (↑(i + 1) : Int))], H := [AObj.box [AV.sl 1 false (bys b), int (↑(a + 1) : Int), Am.bool false]] }, [true = true, CallC P G 44 [AV.ptr 0 0] [AObj.box [AV.sl 1 false (bys b), int (↑a : Int), Am.bool false]] (AOut.ret (AV.lit (Value.int IntKind.u8 (↑(UInt8.toNat c) : Int)))) [AObj.box [AV.sl 1 false (bys b), int (↑(a + 1) : Int), Am.bool false]], ((↑i : Int) == 9) = false, false = false, decide ((↑i : Int) > (0 : Int)) = false, false = false, (128 : Int) ≠ (0 : Int), Am.Sub (int (IntKind.wrap IntKind.i64 (7 * (↑i : Int)))) (int (7 * (↑i : Int))), (0 : Int) ≤ 7 * (↑i : Int), decide ((↑(UInt8.toNat c) : Int) < (128 : Int)) = false, Am.Sub (int (IntKind.wrap IntKind.i64 ((↑i : Int) + 1))) (int (↑(i + 1) : Int))]) := by kernel_rfl

theorem rn_step (b : List UInt8) (a u i : Nat) (c : UInt8) (hv : CallC P G 44 [.ptr 0 0] (rr b a false) (.ret (u8 c)) (rr b (a + 1) false)) (hi : i ≤ 9) (ex : AEx) (v : Int) (o : AObj) (h : ((((↑i : Int) = (9 : Int)) → ((((↑(UInt8.toNat c) : Int) > (1 : Int)) → (AEx.ret = ex) ∧ ((0 : Int) = (v)) ∧ ([AObj.box [AV.sl 1 false (bys b), int (↑(a + 1) : Int), Am.bool true]] = [o])) ∧ ((¬(↑(UInt8.toNat c) : Int) > (1 : Int)) → ((((↑(UInt8.toNat c) : Int) = (0 : Int)) → (AEx.ret = ex) ∧ ((0 : Int) = (v)) ∧ ([AObj.box [AV.sl 1 false (bys b), int (↑(a + 1) : Int), Am.bool true]] = [o])) ∧ ((¬(↑(UInt8.toNat c) : Int) = (0 : Int)) → (AEx.ret = ex) ∧ ((IntKind.wrap IntKind.u64 ((↑u : Int) + IntKind.wrap IntKind.u64 (IntKind.wrap IntKind.u64 (Int.tmod (↑(UInt8.toNat c) : Int) 128) * 2 ^ min (Int.toNat (7 * (↑i : Int))) (IntKind.bits IntKind.u64))) : Int) = (v)) ∧ ([AObj.box [AV.sl 1 false (bys b), int (↑(a + 1) : Int), Am.bool false]] = [o])))))) ∧ ((¬(↑i : Int) = (9 : Int)) → ((((↑i : Int) > (0 : Int)) → ((((↑(UInt8.toNat c) : Int) = (0 : Int)) → (AEx.ret = ex) ∧ ((0 : Int) = (v)) ∧ ([AObj.box [AV.sl 1 false (bys b), int (↑(a + 1) : Int), Am.bool true]] = [o])) ∧ ((¬(↑(UInt8.toNat c) : Int) = (0 : Int)) → ((((↑(UInt8.toNat c) : Int) < (128 : Int)) → (AEx.ret = ex) ∧ ((IntKind.wrap IntKind.u64 ((↑u : Int) + IntKind.wrap IntKind.u64 (IntKind.wrap IntKind.u64 (Int.tmod (↑(UInt8.toNat c) : Int) 128) * 2 ^ min (Int.toNat (7 * (↑i : Int))) (IntKind.bits IntKind.u64))) : Int) = (v)) ∧ ([AObj.box [AV.sl 1 false (bys b), int (↑(a + 1) : Int), Am.bool false]] = [o])) ∧ ((¬(↑(UInt8.toNat c) : Int) < (128 : Int)) → RunL P G none 1 (loopAt P 45 0) { env := slots 43 [(0, AV.ptr 0 0), (2, AV.lit (Value.int IntKind.u64 0)), (3, AV.lit (Value.int IntKind.u64 (IntKind.wrap IntKind.u64 ((↑u : Int) + IntKind.wrap IntKind.u64 (IntKind.wrap IntKind.u64 (Int.tmod (↑(UInt8.toNat c) : Int) 128) * 2 ^ min (Int.toNat (7 * (↑i : Int))) (IntKind.bits IntKind.u64)))))), (4, int (↑(i + 1) : Int))], H := [AObj.box [AV.sl 1 false (bys b), int (↑(a + 1) : Int), Am.bool false]] } ex { env := slots 43 [(2, AV.lit (Value.int IntKind.u64 v))], H := [o] }))))) ∧ ((¬(↑i : Int) > (0 : Int)) → ((((↑(UInt8.toNat c) : Int) < (128 : Int)) → (AEx.ret = ex) ∧ ((IntKind.wrap IntKind.u64 ((↑u : Int) + IntKind.wrap IntKind.u64 (IntKind.wrap IntKind.u64 (Int.tmod (↑(UInt8.toNat c) : Int) 128) * 2 ^ min (Int.toNat (7 * (↑i : Int))) (IntKind.bits IntKind.u64))) : Int) = (v)) ∧ ([AObj.box [AV.sl 1 false (bys b), int (↑(a + 1) : Int), Am.bool false]] = [o])) ∧ ((¬(↑(UInt8.toNat c) : Int) < (128 : Int)) → RunL P G none 1 (loopAt P 45 0) { env := slots 43 [(0, AV.ptr 0 0), (2, AV.lit (Value.int IntKind.u64 0)), (3, AV.lit (Value.int IntKind.u64 (IntKind.wrap IntKind.u64 ((↑u : Int) + IntKind.wrap IntKind.u64 (IntKind.wrap IntKind.u64 (Int.tmod (↑(UInt8.toNat c) : Int) 128) * 2 ^ min (Int.toNat (7 * (↑i : Int))) (IntKind.bits IntKind.u64)))))), (4, int (↑(i + 1) : Int))], H := [AObj.box [AV.sl 1 false (bys b), int (↑(a + 1) : Int), Am.bool false]] } ex { env := slots 43 [(2, AV.lit (Value.int IntKind.u64 v))], H := [o] }))))))) : RunL P G none 1 (loopAt P 45 0) (rnSt b a u i) ex { env := slots 43 [(2, AV.lit (Value.int IntKind.u64 v))], H := [o] } := by
  by_cases c1 : ((↑i : Int) = (9 : Int))
  · have h := h.1 c1
    by_cases c2 : ((↑(UInt8.toNat c) : Int) > (1 : Int))
    · have h := h.1 c2
      obtain ⟨eX, e1, eH⟩ := h
      exact RunL.to (RunL.exit _ _ _ (rn_step_p1 b a u i c) ⟨(rfl), (@hv ), (beq_iff_eq.2 c1), (decide_eq_true c2), (rfl), trivial⟩) eX (SubS.slotsH ⟨rfl, (Sub.int_eq e1), trivial⟩ eH)
    · have h := h.2 c2
      by_cases c4 : ((↑(UInt8.toNat c) : Int) = (0 : Int))
      · have h := h.1 c4
        obtain ⟨eX, e1, eH⟩ := h
        exact RunL.to (RunL.exit _ _ _ (rn_step_p2 b a u i c) ⟨(rfl), (@hv ), (beq_iff_eq.2 c1), (decide_eq_false c2), (decide_eq_true (by omega)), (beq_iff_eq.2 c4), trivial⟩) eX (SubS.slotsH ⟨rfl, (Sub.int_eq e1), trivial⟩ eH)
      · have h := h.2 c4
        obtain ⟨eX, e1, eH⟩ := h
        exact RunL.to (RunL.exit _ _ _ (rn_step_p3 b a u i c) ⟨(rfl), (@hv ), (beq_iff_eq.2 c1), (decide_eq_false c2), (decide_eq_true (by omega)), (beq_eq_false_iff_ne.2 c4), (by omega), Sub.of_wrap (by omega) (by omega) rfl, (by omega), (decide_eq_true (by omega)), trivial⟩) eX (SubS.slotsH ⟨rfl, (Sub.int_eq e1), trivial⟩ eH)
  · have h := h.2 c1
    by_cases c6 : ((↑i : Int) > (0 : Int))
    · have h := h.1 c6
      by_cases c7 : ((↑(UInt8.toNat c) : Int) = (0 : Int))
      · have h := h.1 c7
        obtain ⟨eX, e1, eH⟩ := h
        exact RunL.to (RunL.exit _ _ _ (rn_step_p4 b a u i c) ⟨(rfl), (@hv ), (beq_eq_false_iff_ne.2 c1), (rfl), (decide_eq_true c6), (beq_iff_eq.2 c7), trivial⟩) eX (SubS.slotsH ⟨rfl, (Sub.int_eq e1), trivial⟩ eH)
      · have h := h.2 c7
        by_cases c8 : ((↑(UInt8.toNat c) : Int) < (128 : Int))
        · have h := h.1 c8
          obtain ⟨eX, e1, eH⟩ := h
          exact RunL.to (RunL.exit _ _ _ (rn_step_p5 b a u i c) ⟨(rfl), (@hv ), (beq_eq_false_iff_ne.2 c1), (rfl), (decide_eq_true c6), (beq_eq_false_iff_ne.2 c7), (by omega), Sub.of_wrap (by omega) (by omega) rfl, (by omega), (decide_eq_true c8), trivial⟩) eX (SubS.slotsH ⟨rfl, (Sub.int_eq e1), trivial⟩ eH)
        · have h := h.2 c8
          exact RunL.next _ _ _ (rn_step_p6 b a u i c) ⟨(rfl), (@hv ), (beq_eq_false_iff_ne.2 c1), (rfl), (decide_eq_true c6), (beq_eq_false_iff_ne.2 c7), (by omega), Sub.of_wrap (by omega) (by omega) rfl, (by omega), (decide_eq_false c8), Sub.of_wrap (by omega) (by omega) (by omega), trivial⟩ h
    · have h := h.2 c6
      by_cases c9 : ((↑(UInt8.toNat c) : Int) < (128 : Int))
      · have h := h.1 c9
        obtain ⟨eX, e1, eH⟩ := h
        exact RunL.to (RunL.exit _ _ _ (rn_step_p7 b a u i c) ⟨(rfl), (@hv ), (beq_eq_false_iff_ne.2 c1), (rfl), (decide_eq_false c6), (rfl), (by omega), Sub.of_wrap (by omega) (by omega) rfl, (by omega), (decide_eq_true c9), trivial⟩) eX (SubS.slotsH ⟨rfl, (Sub.int_eq e1), trivial⟩ eH)
      · have h := h.2 c9
        exact RunL.next _ _ _ (rn_step_p8 b a u i c) ⟨(rfl), (@hv ), (beq_eq_false_iff_ne.2 c1), (rfl), (decide_eq_false c6), (rfl), (by omega), Sub.of_wrap (by omega) (by omega) rfl, (by omega), (decide_eq_false c9), Sub.of_wrap (by omega) (by omega) (by omega), trivial⟩ h


theorem rnumber_w_p1 (b : List UInt8) (a : Nat) (a' : Nat) (u : Nat) (bad : Bool) : runF P G 45 [AV.ptr 0 0] (rr b a false) [Orc.loop [1, 5, 6, 7, 8, 9, 10, 11, 12, 13, 14, 15, 16, 17, 18, 19, 20, 21, 22, 23, 24, 25, 26, 27, 28, 29, 30, 31, 32, 33, 34, 35, 36, 37, 38, 39, 40, 41, 42] 1 AEx.ret [AV.dead, AV.dead, AV.lit (Value.int IntKind.u64 (↑u : Int)), AV.dead, AV.dead, AV.dead, AV.dead, AV.dead, AV.dead, AV.dead, AV.dead, AV.dead, AV.dead, AV.dead, AV.dead, AV.dead, AV.dead, AV.dead, AV.dead, AV.dead, AV.dead, AV.dead, AV.dead, AV.dead, AV.dead, AV.dead, AV.dead, AV.dead, AV.dead, AV.dead, AV.dead, AV.dead, AV.dead, AV.dead, AV.dead, AV.dead, AV.dead, AV.dead, AV.dead, AV.dead, AV.dead, AV.dead, AV.dead] [AObj.box [AV.sl 1 false (bys b), int (↑a' : Int), Am.bool bad]]] =
    some (AOut.ret (AV.lit (Value.int IntKind.u64 (↑u : Int))), [AObj.box [AV.sl 1 false (bys b), int (↑a' : Int), Am.bool bad]], [RunL P G none 1 (loopAt P 45 0) { env := slots 43 [(0, AV.ptr 0 0), (2, AV.lit (Value.int IntKind.u64 0)), (3, AV.lit (Value.int IntKind.u64 0)), (4, int 0)], H := [AObj.box [AV.sl 1 false (bys b), int (↑a : Int), Am.bool false]] } AEx.ret { env := slots 43 [(2, AV.lit (Value.int IntKind.u64 (↑u : Int)))], H := [AObj.box [AV.sl 1 false (bys b), int (↑a' : Int), Am.bool bad]] }]) := by kernel_rfl

theorem rnumber_w (b : List UInt8) (a a' u : Nat) (bad : Bool) (hL : RunL P G none 1 (loopAt P 45 0) (rnSt b a 0 0) .ret { env := slots 43 [(2, u64 u)], H := rr b a' bad }) (h : True) : CallC P G 45 [AV.ptr 0 0] (rr b a false) (AOut.ret (u64 u)) (rr b a' bad) := by
  have _ := h
  exact callC_of_run _ (rnumber_w_p1 b a a' u bad) ⟨(@hL ), trivial⟩


theorem next_ok (b : List UInt8) (i : Nat) (bad : Bool) (c : UInt8) (hl : b.length ≤ 1000000000) (hx : b[i]? = some c) : CallC P G 44 [.ptr 0 0] (rr b i bad) (.ret (u8 c)) (rr b (i + 1) bad) := by
  have hi : i < b.length := by
    rcases Nat.lt_or_ge i b.length with h | h
    · exact h
    · rw [List.getElem?_eq_none h] at hx; cases hx
  exact nx_ok b i bad c hi hl hx ⟨c, ⟨by omega, by rw [show (((i + 1 : Nat) : Int) - 1).toNat = i by omega]; exact hx⟩, rfl⟩
theorem rnum1_eq {u : Nat} {c : UInt8} {i : Nat} (hu : u < 2 ^ (7 * i)) (hi : i ≤ 9) (hc : i = 9 → c.toNat ≤ 1) : IntKind.wrap IntKind.u64 ((↑u : Int) + IntKind.wrap IntKind.u64 (IntKind.wrap IntKind.u64 (Int.tmod (↑(UInt8.toNat c) : Int) 128) * 2 ^ min (Int.toNat (7 * (↑i : Int))) (IntKind.bits IntKind.u64))) = ((u + c.toNat % 128 * 2 ^ (7 * i) : Nat) : Int) := by
  have hfit := (digit_fits hu hi hc).2
  have e2 : (7 * (i : Int)).toNat = 7 * i := by omega
  have e3 : min (7 * i) (IntKind.bits IntKind.u64) = 7 * i := by show min (7 * i) 64 = _; omega
  have e1 : Int.tmod (↑(UInt8.toNat c) : Int) 128 = ((c.toNat % 128 : Nat) : Int) := rfl
  rw [e1, e2, e3, wrap64 (show c.toNat % 128 < 18446744073709551616 by omega)]
  have e4 : ((c.toNat % 128 : Nat) : Int) * 2 ^ (7 * i) = ((c.toNat % 128 * 2 ^ (7 * i) : Nat) : Int) := by push_cast; rfl
  rw [e4, wrap64 (show c.toNat % 128 * 2 ^ (7 * i) < 18446744073709551616 by omega), show ((u : Int) + ((c.toNat % 128 * 2 ^ (7 * i) : Nat) : Int)) = ((u + c.toNat % 128 * 2 ^ (7 * i) : Nat) : Int) by push_cast; rfl, wrap64 hfit]
theorem drop_cons {b : List UInt8} {a : Nat} {c : UInt8} {r : List UInt8} (h : b.drop a = c :: r) : b[a]? = some c ∧ b.drop (a + 1) = r ∧ b.length = a + 1 + r.length := by
  have h1 : b[a]? = some c := by
    have := congrArg (fun l => l[0]?) h
    simpa using this
  have h2 : b.drop (a + 1) = r := by
    have := congrArg (List.drop 1) h
    simpa [List.drop_drop, Nat.add_comm] using this
  refine ⟨h1, h2, ?_⟩
  have := congrArg List.length h
  simp at this
  omega
theorem rn_loop (b : List UInt8) (hl : b.length ≤ 1000000000) : ∀ (l : List UInt8) (a u i : Nat), b.drop a = l → a ≤ b.length → u < 2 ^ (7 * i) → i ≤ 9 →
    ∃ a' : Nat, a' ≤ b.length ∧ ((numF l u i).1 = true → b.drop a' = (numF l u i).2.2) ∧
      RunL P G none 1 (loopAt P 45 0) (rnSt b a u i) .ret { env := slots 43 [(2, u64 (if (numF l u i).1 = true then (numF l u i).2.1 else 0))], H := rr b a' (!(numF l u i).1) }
  | [], a, u, i, ha, hab, hu, hi => by
    have hlen : b.length ≤ a := by
      have := congrArg List.length ha
      simp at this; omega
    refine ⟨a, hab, fun h => by simp [numF] at h, ?_⟩
    refine rn_end b a u i hlen hi ?_ ?_ ⟨fun _ => trivial, fun _ => ⟨fun _ => trivial, fun h => ?_⟩⟩
    · have : 2 ^ (7 * i) ≤ 2 ^ 63 := Nat.pow_le_pow_right (by decide) (by omega)
      have e : (2 : Nat) ^ 63 = 9223372036854775808 := by decide
      omega
    · intro h; subst h; simpa using hu
    · have hi0 : i = 0 := by omega
      subst hi0
      have hu0 : u = 0 := by simpa using hu
      subst hu0
      rfl
  | c :: r, a, u, i, ha, hab, hu, hi => by
    obtain ⟨hx, hd, hlen⟩ := drop_cons ha
    have hv := next_ok b a false c hl hx
    have hc8 : c.toNat < 256 := c.toNat_lt
    by_cases hbad : (i ≠ 0 ∧ c.toNat = 0) ∨ (9 ≤ i ∧ 1 < c.toNat)
    · have e : numF (c :: r) u i = (false, u, r) := by simp only [numF]; rw [if_pos hbad]
      rw [e]
      refine ⟨a + 1, by omega, (fun h => by cases h), ?_⟩
      refine rn_step b a u i c hv hi _ 0 _ ⟨fun h9 => ⟨fun h1 => ⟨rfl, rfl, rfl⟩, fun h1 => ⟨fun h0 => ⟨rfl, rfl, rfl⟩, fun h0 => ?_⟩⟩, fun h9 => ⟨fun h0 => ⟨fun hc => ⟨rfl, rfl, rfl⟩, fun hc => ⟨fun hc1 => ?_, fun hc1 => ?_⟩⟩, fun h0 => ⟨fun hc => ?_, fun hc => ?_⟩⟩⟩ <;> omega
    · have h9c : i = 9 → c.toNat ≤ 1 := by omega
      by_cases hc : c.toNat < 128
      · have e : numF (c :: r) u i = (true, u + c.toNat % 128 * 2 ^ (7 * i), r) := by simp only [numF]; rw [if_neg hbad, if_pos hc]
        rw [e]
        refine ⟨a + 1, by omega, fun _ => hd, ?_⟩
        have en := rnum1_eq hu hi h9c
        refine rn_step b a u i c hv hi _ _ _ ⟨fun h9 => ⟨fun h1 => ?_, fun h1 => ⟨fun h0 => ?_, fun h0 => ⟨rfl, en, rfl⟩⟩⟩, fun h9 => ⟨fun h0 => ⟨fun hc => ?_, fun hc => ⟨fun hc1 => ⟨rfl, en, rfl⟩, fun hc1 => ?_⟩⟩, fun h0 => ⟨fun hc => ⟨rfl, en, rfl⟩, fun hc => ?_⟩⟩⟩ <;> omega
      · have e : numF (c :: r) u i = numF r (u + c.toNat % 128 * 2 ^ (7 * i)) (i + 1) := by
          simp only [numF]; rw [if_neg hbad, if_neg hc]
        rw [e]
        have hi' : i ≤ 8 := by omega
        obtain ⟨a', h1, h2, h3⟩ := rn_loop b hl r (a + 1) (u + c.toNat % 128 * 2 ^ (7 * i)) (i + 1) hd (by omega) (digit_fits hu hi h9c).1 (by omega)
        refine ⟨a', h1, h2, ?_⟩
        have en := rnum1_eq hu hi h9c
        refine rn_step b a u i c hv hi _ _ _ ⟨fun h9 => ⟨fun h1 => ?_, fun h1 => ⟨fun h0 => ?_, fun h0 => ?_⟩⟩, fun h9 => ⟨fun h0 => ⟨fun hc => ?_, fun hc => ⟨fun hc1 => ?_, fun hc1 => ?_⟩⟩, fun h0 => ⟨fun hc => ?_, fun hc => ?_⟩⟩⟩
        · omega
        · omega
        · omega
        · omega
        · omega
        · rw [en]; exact h3
        · omega
        · rw [en]; exact h3
theorem rnumber_c (b : List UInt8) (a : Nat) (hl : b.length ≤ 1000000000) (ha : a ≤ b.length) : ∃ a' : Nat, a' ≤ b.length ∧ (numOk (b.drop a) = true → b.drop a' = numR (b.drop a)) ∧
    CallC P G 45 [.ptr 0 0] (rr b a false) (.ret (u64 (if numOk (b.drop a) = true then numU (b.drop a) else 0))) (rr b a' (!numOk (b.drop a))) := by
  obtain ⟨a', h1, h2, h3⟩ := rn_loop b hl _ a 0 0 rfl ha (by simp) (by omega)
  exact ⟨a', h1, h2, rnumber_w b a a' _ _ h3 trivial⟩

end Go.Cdc
