/- CODEC, 15: the reference's Decode; small functions; the examples. -/
import Derived.KernelRfl
import Derived.Test.YtbmimjjhifjofaaC14
namespace Go.Cdc
set_option linter.unusedSimpArgs false
set_option linter.unusedVariables false
open Go Go.Am Go.Proofs

theorem rdec_bad_p1 (b : List UInt8) (a' : Nat) (v : CV) : runF P G 15 [byt b] [] [Orc.call [1] (AOut.ret (val v)) (rr b a' true), Orc.br true, Orc.br true, Orc.br true, Orc.br true] =
    some (AOut.ret (AV.tup [AV.agg [int 0, int 0, str { data := #[] }, nilS], int 10]), [], [CallC P G 30 [AV.ptr 0 0, int 0] [AObj.box [AV.sl 1 false (bys b), int 0, Am.bool false]] (AOut.ret (AV.agg [int (CV.k v), int (CV.n v), str (CV.s v), AV.sl 4 false (encL (CV.l v))])) [AObj.box [AV.sl 1 false (bys b), int (↑a' : Int), Am.bool true]], true = true, true = true, true = true, true = true]) := by kernel_rfl

theorem rdec_bad (b : List UInt8) (a' : Nat) (v : CV) (hv : CallC P G 30 [.ptr 0 0, int 0] (rr b 0 false) (.ret (val v)) (rr b a' true)) (h : True) : CallC P G 15 [byt b] [] (AOut.ret (AV.tup [vmk 0 0 ByteArray.empty [], int 10])) [] := by
  have _ := h
  exact CallC.out (callC_of_run _ (rdec_bad_p1 b a' v) ⟨(@hv ), (rfl), (rfl), (rfl), (rfl), trivial⟩) (Sub.tups ⟨(Sub.aggs ⟨Sub.refl _, Sub.refl _, Sub.refl _, Sub.nil _, trivial⟩), Sub.refl _, trivial⟩)


theorem int_w_p1 (n : Int) : runF P G 17 [int n] [] [] =
    some (AOut.ret (AV.agg [int 1, int n, str { data := #[] }, nilS]), [], []) := by kernel_rfl

theorem int_w (n : Int) (h : True) : CallC P G 17 [int n] [] (AOut.ret (vmk 1 n ByteArray.empty [])) [] := by
  have _ := h
  exact CallC.out (callC_of_run _ (int_w_p1 n) trivial) (Sub.aggs ⟨Sub.refl _, Sub.refl _, Sub.refl _, Sub.nil _, trivial⟩)


theorem text_w_p1 (s : ByteArray) : runF P G 19 [str s] [] [] =
    some (AOut.ret (AV.agg [int 2, int 0, str s, nilS]), [], []) := by kernel_rfl

theorem text_w (s : ByteArray) (h : True) : CallC P G 19 [str s] [] (AOut.ret (vmk 2 0 s [])) [] := by
  have _ := h
  exact CallC.out (callC_of_run _ (text_w_p1 s) trivial) (Sub.aggs ⟨Sub.refl _, Sub.refl _, Sub.refl _, Sub.nil _, trivial⟩)


theorem list_w_p1 (l : List CV) : runF P G 18 [AV.sl 4 false (encL l)] [] [] =
    some (AOut.ret (AV.agg [int 3, int 0, str { data := #[] }, AV.sl 4 false (encL l)]), [], []) := by kernel_rfl

theorem list_w (l : List CV) (h : True) : CallC P G 18 [AV.sl 4 false (encL l)] [] (AOut.ret (vmk 3 0 ByteArray.empty l)) [] := by
  have _ := h
  exact callC_of_run _ (list_w_p1 l) trivial


theorem list_nil_p1 : runF P G 18 [nilS] [] [] =
    some (AOut.ret (AV.agg [int 3, int 0, str { data := #[] }, nilS]), [], []) := by kernel_rfl

theorem list_nil  (h : True) : CallC P G 18 [nilS] [] (AOut.ret (vmk 3 0 ByteArray.empty [])) [] := by
  have _ := h
  exact CallC.out (callC_of_run _ (list_nil_p1) trivial) (Sub.aggs ⟨Sub.refl _, Sub.refl _, Sub.refl _, Sub.nil _, trivial⟩)


theorem few_0_p1 (v : CV) : runF P G 7 [AV.sl 4 false [enc v]] [] [Orc.loop [0, 1, 3, 4, 8, 9, 10, 11, 12, 13, 14] 0 (AEx.exit 0) [AV.dead, AV.dead, Am.bool false, AV.dead, AV.dead, AV.dead, AV.dead, AV.dead, AV.dead, AV.dead, AV.dead, AV.dead, AV.dead, AV.dead, AV.dead] []] =
    some (AOut.ret (Am.bool true), [], [RunL P G none 0 (loopAt P 7 0) { env := slots 15 [(2, Am.bool false), (5, AV.sl 4 false [[int (CV.k v), int (CV.n v), str (CV.s v), AV.sl 4 false (encL (CV.l v))]]), (6, int (↑(List.length [enc v]) : Int)), (7, int 0)], H := [] } (AEx.exit 0) { env := slots 15 [(2, Am.bool false)], H := [] }]) := by kernel_rfl

theorem few_0_p2 (v : CV) : runF P G 7 [AV.sl 4 false [enc v]] [] [Orc.loop [0, 1, 3, 4, 8, 9, 10, 11, 12, 13, 14] 0 AEx.ret [AV.dead, AV.dead, Am.bool false, AV.dead, AV.dead, AV.dead, AV.dead, AV.dead, AV.dead, AV.dead, AV.dead, AV.dead, AV.dead, AV.dead, AV.dead] []] =
    some (AOut.ret (Am.bool false), [], [RunL P G none 0 (loopAt P 7 0) { env := slots 15 [(2, Am.bool false), (5, AV.sl 4 false [[int (CV.k v), int (CV.n v), str (CV.s v), AV.sl 4 false (encL (CV.l v))]]), (6, int (↑(List.length [enc v]) : Int)), (7, int 0)], H := [] } AEx.ret { env := slots 15 [(2, Am.bool false)], H := [] }]) := by kernel_rfl

theorem few_0 (v : CV) (b r : Bool) (hL : RunL P G none 0 (loopAt P 7 0) (fwSt v 0) (if b = true then .exit 0 else .ret) { env := slots 15 [(2, bool false)], H := [] }) (h : (((b = true) → (true) = (r)) ∧ ((¬b = true) → (false) = (r)))) : CallC P G 7 [AV.sl 4 false [enc v]] [] (AOut.ret (Am.bool r)) [] := by
  by_cases c1 : (b = true)
  · have h := h.1 c1
    have e1 := h
    exact CallC.out (callC_of_run _ (few_0_p1 v) ⟨(by have h0 := (@hL ); simp only [if_pos c1] at h0; exact h0), trivial⟩) (Sub.bool_eq e1)
  · have h := h.2 c1
    have e1 := h
    exact CallC.out (callC_of_run _ (few_0_p2 v) ⟨(by have h0 := (@hL ); simp only [if_neg c1] at h0; exact h0), trivial⟩) (Sub.bool_eq e1)


def saSt (xs : List (List AV)) (n i : Nat) : St := { env := slots 95 [(0, bool false), (77, .sl 1 true xs), (78, int n), (79, int i)], H := [] }

theorem sa_end_p1 (xs : List (List AV)) (n : Nat) (i : Nat) : loopExit P G none 0 (loopAt P 6 0) (saSt xs n i) [Orc.br false] (others 95 [0]) 0 =
    some (AEx.exit 0, { env := slots 95 [(0, Am.bool false)], H := [] }, [decide ((↑i : Int) < (↑n : Int)) = false]) := by kernel_rfl

theorem sa_end (xs : List (List AV)) (n i : Nat) (hi : n ≤ i) (h : True) : RunL P G none 0 (loopAt P 6 0) (saSt xs n i) (AEx.exit 0) { env := slots 95 [(0, Am.bool false)], H := [] } := by
  have _ := h
  exact RunL.exit _ _ _ (sa_end_p1 xs n i) ⟨(decide_eq_false (by omega)), trivial⟩


theorem sa_step_p1 (xs : List (List AV)) (n : Nat) (i : Nat) (s : ByteArray) : loopStep P G none 0 (loopAt P 6 0) (saSt xs n i) [Orc.br true, Orc.elem [str s], Orc.call [] (AOut.ret (AV.tup [val default, int 10])) [], Orc.br false, Orc.val (some 91) (int (↑(i + 1) : Int))] (others 95 [0, 77, 78, 79]) 0 =
    some ({ env := slots 95 [(0, Am.bool false), (77, AV.sl 1 true xs), (78, int (↑n : Int)), (79, int (↑(i + 1) : Int))], H := [] }, [decide ((↑i : Int) < (↑n : Int)) = true, (0 : Int) ≤ (↑i : Int) ∧ xs[Int.toNat (↑i : Int)]? = some [str s], CallC P G 14 [AV.sl 1 false (List.map (fun (c : UInt8) => [AV.lit (Value.int IntKind.u8 (↑(UInt8.toNat c) : Int))]) (Array.toList (ByteArray.data s)))] [] (AOut.ret (AV.tup [AV.agg [int 0, int 0, str (CV.s default), AV.sl 4 false []], int 10])) [], false = false, Am.Sub (int (IntKind.wrap IntKind.i64 ((↑i : Int) + 1))) (int (↑(i + 1) : Int))]) := by kernel_rfl

theorem sa_step (xs : List (List AV)) (n i : Nat) (s : ByteArray) (hi : i < n) (hn : n ≤ 1000) (hs : s.size ≤ 1000) (hx : xs[i]? = some [str s]) (hv : CallC P G 14 [byt s.data.toList] [] (.ret (.tup [val default, int 10])) []) (ex : AEx) (s' : St) (h : RunL P G none 0 (loopAt P 6 0) { env := slots 95 [(0, Am.bool false), (77, AV.sl 1 true xs), (78, int (↑n : Int)), (79, int (↑(i + 1) : Int))], H := [] } ex s') : RunL P G none 0 (loopAt P 6 0) (saSt xs n i) ex s' := by
  exact RunL.next _ _ _ (sa_step_p1 xs n i s) ⟨(decide_eq_true (by omega)), (el_nat' hx), (@hv ), (rfl), Sub.of_wrap (by omega) (by omega) (by omega), trivial⟩ h


end Go.Cdc
