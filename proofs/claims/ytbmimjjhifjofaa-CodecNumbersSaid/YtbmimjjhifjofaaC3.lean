/- CODEC, 3: the program's Decode. -/
import Derived.KernelRfl
import Derived.Test.YtbmimjjhifjofaaC2
namespace Go.Cdc
set_option linter.unusedSimpArgs false
set_option linter.unusedVariables false
open Go Go.Am Go.Proofs

theorem val_deep_p1 (dep : Nat) (r : List UInt8) : runF P G 28 [AV.ptr 0 0, int (↑dep : Int)] (rdrC 3 r) [Orc.call [0] (AOut.ret (AV.sl 1 false [[AV.lit (Value.int IntKind.u8 3)]])) (rdr r), Orc.elem [AV.lit (Value.int IntKind.u8 3)], Orc.br false, Orc.br false, Orc.br true, Orc.call [0] (AOut.pan badErr) [AObj.box [AV.sl 1 false (bys r)]]] =
    some (AOut.pan (AV.ifc 28 (int 10)), [AObj.box [AV.sl 1 false (bys r)]], [CallC P G 40 [AV.ptr 0 0, int 1] [AObj.box [AV.sl 1 false ([AV.lit (Value.int IntKind.u8 3)] :: bys r)]] (AOut.ret (AV.sl 1 false [[AV.lit (Value.int IntKind.u8 3)]])) [AObj.box [AV.sl 1 false (bys r)]], (0 : Int) ≤ (0 : Int) ∧ [[AV.lit (Value.int IntKind.u8 3)]][Int.toNat 0]? = some [AV.lit (Value.int IntKind.u8 3)], false = false, false = false, true = true, CallC P G 29 [AV.ptr 0 0, Am.bool (decide ((↑dep : Int) < (16 : Int)))] [AObj.box [AV.sl 1 false (bys r)]] (AOut.pan (AV.ifc 28 (int 10))) [AObj.box [AV.sl 1 false (bys r)]]]) := by kernel_rfl

theorem val_deep (dep : Nat) (r : List UInt8) (hl : r.length ≤ 999999999) (hd : dep = 16) (h : True) : CallC P G 28 [AV.ptr 0 0, int (↑dep : Int)] (rdrC 3 r) (AOut.pan badErr) [AObj.gone] := by
  have _ := h
  exact CallC.heapSub (callC_of_run _ (val_deep_p1 dep r) ⟨(@Go.Cdc.one_any (AV.lit (Value.int IntKind.u8 3)) (r) (by omega)), ⟨by decide, rfl⟩, (rfl), (rfl), (rfl), (by have h0 := (@Go.Cdc.want_c (AObj.box [AV.sl 1 false (bys r)]) (decide ((↑dep : Int) < (16 : Int)))); simp only [if_neg (show ¬ (decide ((↑dep : Int) < (16 : Int)) = true) from Bool.eq_false_iff.1 (decide_eq_false (by omega)))] at h0; exact h0), trivial⟩) (by exact ⟨.inr trivial, trivial⟩)


theorem val_len_x_p1 (dep : Nat) (r : List UInt8) : runF P G 28 [AV.ptr 0 0, int (↑dep : Int)] (rdrC 3 r) [Orc.call [0] (AOut.ret (AV.sl 1 false [[AV.lit (Value.int IntKind.u8 3)]])) (rdr r), Orc.elem [AV.lit (Value.int IntKind.u8 3)], Orc.br false, Orc.br false, Orc.br true, Orc.call [0] (AOut.ret (AV.tup [])) [AObj.box [AV.sl 1 false (bys r)]], Orc.call [0] (AOut.pan badErr) (rdr (numR r))] =
    some (AOut.pan (AV.ifc 28 (int 10)), [AObj.box [AV.sl 1 false (bys (numR r))]], [CallC P G 40 [AV.ptr 0 0, int 1] [AObj.box [AV.sl 1 false ([AV.lit (Value.int IntKind.u8 3)] :: bys r)]] (AOut.ret (AV.sl 1 false [[AV.lit (Value.int IntKind.u8 3)]])) [AObj.box [AV.sl 1 false (bys r)]], (0 : Int) ≤ (0 : Int) ∧ [[AV.lit (Value.int IntKind.u8 3)]][Int.toNat 0]? = some [AV.lit (Value.int IntKind.u8 3)], false = false, false = false, true = true, CallC P G 29 [AV.ptr 0 0, Am.bool (decide ((↑dep : Int) < (16 : Int)))] [AObj.box [AV.sl 1 false (bys r)]] (AOut.ret (AV.tup [])) [AObj.box [AV.sl 1 false (bys r)]], CallC P G 43 [AV.ptr 0 0] [AObj.box [AV.sl 1 false (bys r)]] (AOut.pan (AV.ifc 28 (int 10))) [AObj.box [AV.sl 1 false (bys (numR r))]]]) := by kernel_rfl

theorem val_len_x (dep : Nat) (r : List UInt8) (hl : r.length ≤ 999999999) (hd : dep < 16) (hok : lenOk r = false) (h : True) : CallC P G 28 [AV.ptr 0 0, int (↑dep : Int)] (rdrC 3 r) (AOut.pan badErr) [AObj.gone] := by
  have _ := h
  exact CallC.heapSub (callC_of_run _ (val_len_x_p1 dep r) ⟨(@Go.Cdc.one_any (AV.lit (Value.int IntKind.u8 3)) (r) (by omega)), ⟨by decide, rfl⟩, (rfl), (rfl), (rfl), (by have h0 := (@Go.Cdc.want_c (AObj.box [AV.sl 1 false (bys r)]) (decide ((↑dep : Int) < (16 : Int)))); simp only [if_pos (show decide ((↑dep : Int) < (16 : Int)) = true from decide_eq_true (by omega))] at h0; exact h0), (by have h0 := (@Go.Cdc.length_c (r) (by omega)); simp only [if_neg (show ¬ (lenOk r = true) from Bool.eq_false_iff.1 (hok))] at h0; exact h0), trivial⟩) (by exact ⟨.inr trivial, trivial⟩)


theorem val_lst0_p1 (dep : Nat) (r : List UInt8) : runF P G 28 [AV.ptr 0 0, int (↑dep : Int)] (rdrC 3 r) [Orc.call [0] (AOut.ret (AV.sl 1 false [[AV.lit (Value.int IntKind.u8 3)]])) (rdr r), Orc.elem [AV.lit (Value.int IntKind.u8 3)], Orc.br false, Orc.br false, Orc.br true, Orc.call [0] (AOut.ret (AV.tup [])) [AObj.box [AV.sl 1 false (bys r)]], Orc.call [0] (AOut.ret (int (↑(numU r) : Int))) (rdr (numR r)), Orc.loop [2, 3, 5, 6, 7, 8, 9, 10, 11, 12, 13, 14, 15, 16, 17, 18, 19, 20, 21, 22, 23, 24, 25, 26, 27, 28, 29, 30, 31, 32, 33, 34, 35, 38, 39, 40, 41, 42, 43, 44, 45, 46, 47, 48, 49] 2 (AEx.exit 1) [AV.dead, AV.dead, AV.dead, AV.dead, AV.ptr 1 0, AV.dead, AV.dead, AV.dead, AV.dead, AV.dead, AV.dead, AV.dead, AV.dead, AV.dead, AV.dead, AV.dead, AV.dead, AV.dead, AV.dead, AV.dead, AV.dead, AV.dead, AV.dead, AV.dead, AV.dead, AV.dead, AV.dead, AV.dead, AV.dead, AV.dead, AV.dead, AV.dead, AV.dead, AV.dead, AV.dead, AV.dead, AV.dead, AV.dead, AV.dead, AV.dead, AV.dead, AV.dead, AV.dead, AV.dead, AV.dead, AV.dead, AV.dead, AV.dead, AV.dead, AV.dead] [AObj.box [AV.sl 1 false (bys (numR r))], AObj.box [int 3, int 0, str { data := #[] }, nilS]]] =
    some (AOut.ret (AV.agg [int 3, int 0, str { data := #[] }, nilS]), [AObj.box [AV.sl 1 false (bys (numR r))]], [CallC P G 40 [AV.ptr 0 0, int 1] [AObj.box [AV.sl 1 false ([AV.lit (Value.int IntKind.u8 3)] :: bys r)]] (AOut.ret (AV.sl 1 false [[AV.lit (Value.int IntKind.u8 3)]])) [AObj.box [AV.sl 1 false (bys r)]], (0 : Int) ≤ (0 : Int) ∧ [[AV.lit (Value.int IntKind.u8 3)]][Int.toNat 0]? = some [AV.lit (Value.int IntKind.u8 3)], false = false, false = false, true = true, CallC P G 29 [AV.ptr 0 0, Am.bool (decide ((↑dep : Int) < (16 : Int)))] [AObj.box [AV.sl 1 false (bys r)]] (AOut.ret (AV.tup [])) [AObj.box [AV.sl 1 false (bys r)]], CallC P G 43 [AV.ptr 0 0] [AObj.box [AV.sl 1 false (bys r)]] (AOut.ret (int (↑(numU r) : Int))) [AObj.box [AV.sl 1 false (bys (numR r))]], RunL P G none 1 (loopAt P 28 0) { env := slots 50 [(0, AV.ptr 0 0), (1, int (↑dep : Int)), (4, AV.ptr 1 0), (36, int (↑(numU r) : Int)), (37, int 0)], H := [AObj.box [AV.sl 1 false (bys (numR r))], AObj.box [int 3, int 0, str { data := #[] }, nilS]] } (AEx.exit 1) { env := slots 50 [(4, AV.ptr 1 0)], H := [AObj.box [AV.sl 1 false (bys (numR r))], AObj.box [int 3, int 0, str { data := #[] }, nilS]] }]) := by kernel_rfl

theorem val_lst0 (dep : Nat) (r : List UInt8) (hl : r.length ≤ 999999999) (hd : dep < 16) (hok : lenOk r = true) (hu : numU r = 0) (h : True) : CallC P G 28 [AV.ptr 0 0, int (↑dep : Int)] (rdrC 3 r) (AOut.ret (val (mkL []))) (rdr (numR r)) := by
  have _ := h
  exact CallC.out (callC_of_run _ (val_lst0_p1 dep r) ⟨(@Go.Cdc.one_any (AV.lit (Value.int IntKind.u8 3)) (r) (by omega)), ⟨by decide, rfl⟩, (rfl), (rfl), (rfl), (by have h0 := (@Go.Cdc.want_c (AObj.box [AV.sl 1 false (bys r)]) (decide ((↑dep : Int) < (16 : Int)))); simp only [if_pos (show decide ((↑dep : Int) < (16 : Int)) = true from decide_eq_true (by omega))] at h0; exact h0), (by have h0 := (@Go.Cdc.length_c (r) (by omega)); simp only [if_pos (show lenOk r = true from hok)] at h0; exact h0), (@Go.Cdc.lst0_end (dep) (numR r) (numU r) (by omega) (trivial)), trivial⟩) (Sub.aggs ⟨Sub.refl _, Sub.refl _, Sub.refl _, Sub.nil _, trivial⟩)


theorem val_lst_ok_p1 (dep : Nat) (n : Nat) (r : List UInt8) (r' : List UInt8) (vs : List CV) : runF P G 28 [AV.ptr 0 0, int (↑dep : Int)] (rdrC 3 r) [Orc.call [0] (AOut.ret (AV.sl 1 false [[AV.lit (Value.int IntKind.u8 3)]])) (rdr r), Orc.elem [AV.lit (Value.int IntKind.u8 3)], Orc.br false, Orc.br false, Orc.br true, Orc.call [0] (AOut.ret (AV.tup [])) [AObj.box [AV.sl 1 false (bys r)]], Orc.call [0] (AOut.ret (int (↑(numU r) : Int))) (rdr (numR r)), Orc.loop [2, 3, 5, 6, 7, 8, 9, 10, 11, 12, 13, 14, 15, 16, 17, 18, 19, 20, 21, 22, 23, 24, 25, 26, 27, 28, 29, 30, 31, 32, 33, 34, 35, 38, 39, 40, 41, 42, 43, 44, 45, 46, 47, 48, 49] 2 (AEx.exit 1) [AV.dead, AV.dead, AV.dead, AV.dead, AV.ptr 1 0, AV.dead, AV.dead, AV.dead, AV.dead, AV.dead, AV.dead, AV.dead, AV.dead, AV.dead, AV.dead, AV.dead, AV.dead, AV.dead, AV.dead, AV.dead, AV.dead, AV.dead, AV.dead, AV.dead, AV.dead, AV.dead, AV.dead, AV.dead, AV.dead, AV.dead, AV.dead, AV.dead, AV.dead, AV.dead, AV.dead, AV.dead, AV.dead, AV.dead, AV.dead, AV.dead, AV.dead, AV.dead, AV.dead, AV.dead, AV.dead, AV.dead, AV.dead, AV.dead, AV.dead, AV.dead] [AObj.box [AV.sl 1 false (bys r')], AObj.box [int 3, int 0, str { data := #[] }, AV.own 2 n 0 (List.length vs)], AObj.arr n 4 false (encL vs)], Orc.fz (some 49) (encL vs)] =
    some (AOut.ret (AV.agg [int 3, int 0, str { data := #[] }, AV.sl 4 false (encL vs)]), [AObj.box [AV.sl 1 false (bys r')]], [CallC P G 40 [AV.ptr 0 0, int 1] [AObj.box [AV.sl 1 false ([AV.lit (Value.int IntKind.u8 3)] :: bys r)]] (AOut.ret (AV.sl 1 false [[AV.lit (Value.int IntKind.u8 3)]])) [AObj.box [AV.sl 1 false (bys r)]], (0 : Int) ≤ (0 : Int) ∧ [[AV.lit (Value.int IntKind.u8 3)]][Int.toNat 0]? = some [AV.lit (Value.int IntKind.u8 3)], false = false, false = false, true = true, CallC P G 29 [AV.ptr 0 0, Am.bool (decide ((↑dep : Int) < (16 : Int)))] [AObj.box [AV.sl 1 false (bys r)]] (AOut.ret (AV.tup [])) [AObj.box [AV.sl 1 false (bys r)]], CallC P G 43 [AV.ptr 0 0] [AObj.box [AV.sl 1 false (bys r)]] (AOut.ret (int (↑(numU r) : Int))) [AObj.box [AV.sl 1 false (bys (numR r))]], RunL P G none 1 (loopAt P 28 0) { env := slots 50 [(0, AV.ptr 0 0), (1, int (↑dep : Int)), (4, AV.ptr 1 0), (36, int (↑(numU r) : Int)), (37, int 0)], H := [AObj.box [AV.sl 1 false (bys (numR r))], AObj.box [int 3, int 0, str { data := #[] }, nilS]] } (AEx.exit 1) { env := slots 50 [(4, AV.ptr 1 0)], H := [AObj.box [AV.sl 1 false (bys r')], AObj.box [int 3, int 0, str { data := #[] }, AV.own 2 n 0 (List.length vs)], AObj.arr n 4 false (encL vs)] }, n = n, List.take (List.length vs) (List.drop 0 (encL vs)) = encL vs, List.length (encL vs) = List.length vs, ∀ (c : List AV), c ∈ encL vs → List.all c AV.pureB = true]) := by kernel_rfl

theorem val_lst_ok (dep n : Nat) (r r' : List UInt8) (vs : List CV) (hl : r.length ≤ 999999999) (hd : dep < 16) (hok : lenOk r = true) (hu : numU r = n + 1) (hlen : vs.length = n + 1) (hN : n + 1 ≤ 1000000000) (hL : RunL P G none 1 (loopAt P 28 0) (lst0 dep (numR r) (numU r)) (.exit 1) { env := slots 50 [(4, .ptr 1 0)], H := [.box [byt r'], .box [int 3, int 0, str { data := #[] }, .own 2 n 0 vs.length], .arr n 4 false (encL vs)] }) (h : True) : CallC P G 28 [AV.ptr 0 0, int (↑dep : Int)] (rdrC 3 r) (AOut.ret (val (mkL vs))) (rdr r') := by
  have _ := h
  exact callC_of_run _ (val_lst_ok_p1 dep n r r' vs) ⟨(@Go.Cdc.one_any (AV.lit (Value.int IntKind.u8 3)) (r) (by omega)), ⟨by decide, rfl⟩, (rfl), (rfl), (rfl), (by have h0 := (@Go.Cdc.want_c (AObj.box [AV.sl 1 false (bys r)]) (decide ((↑dep : Int) < (16 : Int)))); simp only [if_pos (show decide ((↑dep : Int) < (16 : Int)) = true from decide_eq_true (by omega))] at h0; exact h0), (by have h0 := (@Go.Cdc.length_c (r) (by omega)); simp only [if_pos (show lenOk r = true from hok)] at h0; exact h0), (@hL ), (rfl), (Go.Cdc.encL_all _), (Go.Cdc.encL_length _), (Go.Cdc.encL_pure _), trivial⟩


theorem val_lst_bad_p1 (dep : Nat) (r : List UInt8) : runF P G 28 [AV.ptr 0 0, int (↑dep : Int)] (rdrC 3 r) [Orc.call [0] (AOut.ret (AV.sl 1 false [[AV.lit (Value.int IntKind.u8 3)]])) (rdr r), Orc.elem [AV.lit (Value.int IntKind.u8 3)], Orc.br false, Orc.br false, Orc.br true, Orc.call [0] (AOut.ret (AV.tup [])) [AObj.box [AV.sl 1 false (bys r)]], Orc.call [0] (AOut.ret (int (↑(numU r) : Int))) (rdr (numR r)), Orc.loop [2, 3, 5, 6, 7, 8, 9, 10, 11, 12, 13, 14, 15, 16, 17, 18, 19, 20, 21, 22, 23, 24, 25, 26, 27, 28, 29, 30, 31, 32, 33, 34, 35, 38, 39, 40, 41, 42, 43, 44, 45, 46, 47, 48, 49] 2 (AEx.pan badErr) [AV.dead, AV.dead, AV.dead, AV.dead, AV.dead, AV.dead, AV.dead, AV.dead, AV.dead, AV.dead, AV.dead, AV.dead, AV.dead, AV.dead, AV.dead, AV.dead, AV.dead, AV.dead, AV.dead, AV.dead, AV.dead, AV.dead, AV.dead, AV.dead, AV.dead, AV.dead, AV.dead, AV.dead, AV.dead, AV.dead, AV.dead, AV.dead, AV.dead, AV.dead, AV.dead, AV.dead, AV.dead, AV.dead, AV.dead, AV.dead, AV.dead, AV.dead, AV.dead, AV.dead, AV.dead, AV.dead, AV.dead, AV.dead, AV.dead, AV.dead] [AObj.gone]] =
    some (AOut.pan (AV.ifc 28 (int 10)), [AObj.gone], [CallC P G 40 [AV.ptr 0 0, int 1] [AObj.box [AV.sl 1 false ([AV.lit (Value.int IntKind.u8 3)] :: bys r)]] (AOut.ret (AV.sl 1 false [[AV.lit (Value.int IntKind.u8 3)]])) [AObj.box [AV.sl 1 false (bys r)]], (0 : Int) ≤ (0 : Int) ∧ [[AV.lit (Value.int IntKind.u8 3)]][Int.toNat 0]? = some [AV.lit (Value.int IntKind.u8 3)], false = false, false = false, true = true, CallC P G 29 [AV.ptr 0 0, Am.bool (decide ((↑dep : Int) < (16 : Int)))] [AObj.box [AV.sl 1 false (bys r)]] (AOut.ret (AV.tup [])) [AObj.box [AV.sl 1 false (bys r)]], CallC P G 43 [AV.ptr 0 0] [AObj.box [AV.sl 1 false (bys r)]] (AOut.ret (int (↑(numU r) : Int))) [AObj.box [AV.sl 1 false (bys (numR r))]], RunL P G none 1 (loopAt P 28 0) { env := slots 50 [(0, AV.ptr 0 0), (1, int (↑dep : Int)), (4, AV.ptr 1 0), (36, int (↑(numU r) : Int)), (37, int 0)], H := [AObj.box [AV.sl 1 false (bys (numR r))], AObj.box [int 3, int 0, str { data := #[] }, nilS]] } (AEx.pan (AV.ifc 28 (int 10))) { env := slots 50 [], H := [AObj.gone] }]) := by kernel_rfl

theorem val_lst_bad (dep n : Nat) (r : List UInt8) (hl : r.length ≤ 999999999) (hd : dep < 16) (hok : lenOk r = true) (hL : RunL P G none 1 (loopAt P 28 0) (lst0 dep (numR r) (numU r)) (.pan badErr) { env := slots 50 [], H := [.gone] }) (h : True) : CallC P G 28 [AV.ptr 0 0, int (↑dep : Int)] (rdrC 3 r) (AOut.pan badErr) [AObj.gone] := by
  have _ := h
  exact callC_of_run _ (val_lst_bad_p1 dep r) ⟨(@Go.Cdc.one_any (AV.lit (Value.int IntKind.u8 3)) (r) (by omega)), ⟨by decide, rfl⟩, (rfl), (rfl), (rfl), (by have h0 := (@Go.Cdc.want_c (AObj.box [AV.sl 1 false (bys r)]) (decide ((↑dep : Int) < (16 : Int)))); simp only [if_pos (show decide ((↑dep : Int) < (16 : Int)) = true from decide_eq_true (by omega))] at h0; exact h0), (by have h0 := (@Go.Cdc.length_c (r) (by omega)); simp only [if_pos (show lenOk r = true from hok)] at h0; exact h0), (@hL ), trivial⟩


/-- What the program's reader makes of bytes: whether it accepts, the value, what remains. 'deep': lists are allowed. -/
def valS (deep : Bool) (p : List UInt8 → Bool × CV × List UInt8) : List UInt8 → Bool × CV × List UInt8
  | [] => (false, default, [])
  | c :: r => if c.toNat = 1 then (numOk r, mkI (sgn (numU r)), numR r)
    else if c.toNat = 2 then (lenOk r, mkT ⟨((numR r).take (numU r)).toArray⟩, (numR r).drop (numU r))
    else if c.toNat = 3 then (if deep = true ∧ lenOk r = true then ((lstF p (numU r) (numR r)).1, mkL (lstF p (numU r) (numR r)).2.1, (lstF p (numU r) (numR r)).2.2) else (false, default, []))
    else (false, default, [])
def valF : Nat → List UInt8 → Bool × CV × List UInt8
  | 0 => valS false fun _ => (false, default, [])
  | f + 1 => valS true (valF f)
theorem valS_le {deep : Bool} {p : List UInt8 → Bool × CV × List UInt8} (hp : ∀ l, (p l).2.2.length ≤ l.length) : ∀ l, (valS deep p l).2.2.length ≤ l.length
  | [] => Nat.le_refl _
  | c :: r => by
    have h1 := numR_le r
    simp only [valS]
    split
    · simp only [List.length_cons]; omega
    · split
      · simp only [List.length_cons, List.length_drop]; omega
      · split
        · split
          · have := lstF_le hp (numU r) (numR r)
            simp only [List.length_cons]; omega
          · simp
        · simp
theorem lenOk_le {r : List UInt8} (h : lenOk r = true) : numU r ≤ (numR r).length := by
  simp only [lenOk, Bool.and_eq_true, decide_eq_true_eq] at h
  exact h.2
theorem byte_eq {c d : UInt8} (h : c.toNat = d.toNat) : c = d := UInt8.toNat_inj.1 h
theorem valS_1 {deep : Bool} {p : List UInt8 → Bool × CV × List UInt8} {c : UInt8} {r : List UInt8} (h : c.toNat = 1) : valS deep p (c :: r) = (numOk r, mkI (sgn (numU r)), numR r) := by
  simp only [valS]; rw [if_pos h]
theorem valS_2 {deep : Bool} {p : List UInt8 → Bool × CV × List UInt8} {c : UInt8} {r : List UInt8} (h : c.toNat = 2) : valS deep p (c :: r) = (lenOk r, mkT ⟨((numR r).take (numU r)).toArray⟩, (numR r).drop (numU r)) := by
  simp only [valS]; rw [if_neg (by omega), if_pos h]
theorem valS_3 {deep : Bool} {p : List UInt8 → Bool × CV × List UInt8} {c : UInt8} {r : List UInt8} (h : c.toNat = 3) : valS deep p (c :: r) = if deep = true ∧ lenOk r = true then ((lstF p (numU r) (numR r)).1, mkL (lstF p (numU r) (numR r)).2.1, (lstF p (numU r) (numR r)).2.2) else (false, default, []) := by
  simp only [valS]; rw [if_neg (by omega), if_neg (by omega), if_pos h]
theorem valS_x {deep : Bool} {p : List UInt8 → Bool × CV × List UInt8} {c : UInt8} {r : List UInt8} (h1 : c.toNat ≠ 1) (h2 : c.toNat ≠ 2) (h3 : c.toNat ≠ 3) : valS deep p (c :: r) = (false, default, []) := by
  simp only [valS]; rw [if_neg h1, if_neg h2, if_neg h3]
theorem valS_call {dep : Nat} {deep : Bool} {p : List UInt8 → Bool × CV × List UInt8} (hp : deep = true → dep < 16 ∧ Reads (dep + 1) p) (hd : deep = false → dep = 16) (l : List UInt8) (hl : l.length ≤ 1000000000) :
    CallC P G 28 [.ptr 0 0, int (dep : Int)] (rdr l) (if (valS deep p l).1 = true then .ret (val (valS deep p l).2.1) else .pan badErr) [if (valS deep p l).1 = true then .box [byt (valS deep p l).2.2] else .gone] := by
  cases l with
  | nil => exact val_nil dep trivial
  | cons c r =>
    have hr : r.length ≤ 999999999 := by simp at hl; omega
    have hR := numR_le r
    by_cases h1 : c.toNat = 1
    · have hc : c = 1 := byte_eq h1
      rw [valS_1 h1]
      subst hc
      cases hok : numOk r with
      | true => simp only [if_true]; exact val_int dep r hr (numU_lt r) hok trivial
      | false => simp only [Bool.false_eq_true, if_false]; exact val_int_x dep r hr hok trivial
    · by_cases h2 : c.toNat = 2
      · have hc : c = 2 := byte_eq h2
        rw [valS_2 h2]
        subst hc
        cases hok : lenOk r with
        | true => simp only [if_true]; exact val_txt dep r hr (numU_lt r) (by omega) hok (lenOk_le hok) trivial
        | false => simp only [Bool.false_eq_true, if_false]; exact val_txt_x dep r hr hok trivial
      · by_cases h3 : c.toNat = 3
        · have hc : c = 3 := byte_eq h3
          rw [valS_3 h3]
          subst hc
          cases deep with
          | false =>
            simp only [Bool.false_eq_true, false_and, if_false]
            exact val_deep dep r hr (hd rfl) trivial
          | true =>
            obtain ⟨hdep, hp⟩ := hp rfl
            cases hok : lenOk r with
            | false => simp only [Bool.false_eq_true, and_false, if_false]; exact val_len_x dep r hr hdep hok trivial
            | true =>
              simp only [and_self, if_true]
              have hle := lenOk_le hok
              cases hu : numU r with
              | zero =>
                simp only [lstF, if_true]
                exact val_lst0 dep r hr hdep hok hu trivial
              | succ n =>
                have hL := lst0_loop hp hdep n (by omega) (numR r) (by omega)
                cases hq : (lstF p (n + 1) (numR r)).1 with
                | true =>
                  rw [hq] at hL
                  simp only [if_true] at hL ⊢
                  exact val_lst_ok dep n r _ _ hr hdep hok hu (lstF_len _ _ hq) (by omega) (by rw [hu]; exact hL) trivial
                | false =>
                  rw [hq] at hL
                  simp only [Bool.false_eq_true, if_false] at hL ⊢
                  exact val_lst_bad dep n r hr hdep hok (by rw [hu]; exact hL) trivial
        · rw [valS_x h1 h2 h3]
          simp only [if_false, Bool.false_eq_true]
          exact val_bad dep c r hr c.toNat_lt h1 h2 h3 trivial

theorem valF_reads : ∀ (f dep : Nat), f + dep = 16 → Reads dep (valF f)
  | 0, dep, h => ⟨fun l hl => valS_call (fun h => by cases h) (fun _ => by omega) l hl, valS_le fun _ => Nat.zero_le _⟩
  | f + 1, dep, h => ⟨fun l hl => valS_call (fun _ => ⟨by omega, valF_reads f (dep + 1) (by omega)⟩) (fun h => by cases h) l hl, valS_le (valF_reads f (dep + 1) (by omega)).le⟩

/-! Decode -/
theorem def_ret_p (o0 o1 o2 : AObj) : runDef P G 27 [.ptr 0 0, .ptr 1 0] [o0, o1, o2] (.ret .dead) [.br false] = some ([o0, o1, o2], .ret .dead, [false = false]) := by kernel_rfl
theorem def_ret (o0 o1 o2 : AObj) : DefC P G 27 [.ptr 0 0, .ptr 1 0] [o0, o1, o2] (.ret .dead) [o0, o1, o2] (.ret .dead) := defC_of_run _ (def_ret_p o0 o1 o2) ⟨rfl, trivial⟩
theorem def_pan_p (a b c d e : AV) (o2 : AObj) : runDef P G 27 [.ptr 0 0, .ptr 1 0] [.box [a, b, c, d], .box [e], o2] (.pan badErr) [.br true] = some ([.box [int 0, int 0, str { data := #[] }, nilS], .box [int 10], o2], .ret .dead, [true = true]) := by kernel_rfl
theorem def_pan (a b c d e : AV) (o2 : AObj) : DefC P G 27 [.ptr 0 0, .ptr 1 0] [.box [a, b, c, d], .box [e], o2] (.pan badErr) [.box [int 0, int 0, str { data := #[] }, nilS], .box [int 10], o2] (.ret .dead) := defC_of_run _ (def_pan_p a b c d e o2) ⟨rfl, trivial⟩

theorem dec_ok_p1 (l : List UInt8) (r : List UInt8) (v : CV) : runF P G 14 [byt l] [] [Orc.call [2] (AOut.ret (val v)) (rdr r), Orc.val (some 16) (int (↑(List.length r) : Int)), Orc.call [2] (AOut.ret (AV.tup [])) [AObj.box [AV.sl 1 false (bys r)]], Orc.dcall (AOut.ret AV.dead) [AObj.box [int (CV.k v), int (CV.n v), str (CV.s v), AV.sl 4 false (encL (CV.l v))], AObj.box [int 0], AObj.box [AV.sl 1 false (bys r)]]] =
    some (AOut.ret (AV.tup [AV.agg [int (CV.k v), int (CV.n v), str (CV.s v), AV.sl 4 false (encL (CV.l v))], int 0]), [], [CallC P G 28 [AV.ptr 0 0, int 0] [AObj.box [AV.sl 1 false (bys l)]] (AOut.ret (AV.agg [int (CV.k v), int (CV.n v), str (CV.s v), AV.sl 4 false (encL (CV.l v))])) [AObj.box [AV.sl 1 false (bys r)]], Am.Sub (int (↑(List.length (bys r)) : Int)) (int (↑(List.length r) : Int)), CallC P G 29 [AV.ptr 0 0, Am.bool ((↑(List.length r) : Int) == 0)] [AObj.box [AV.sl 1 false (bys r)]] (AOut.ret (AV.tup [])) [AObj.box [AV.sl 1 false (bys r)]], DefC P G 27 [AV.ptr 0 0, AV.ptr 1 0] [AObj.box [int (CV.k v), int (CV.n v), str (CV.s v), AV.sl 4 false (encL (CV.l v))], AObj.box [int 0], AObj.box [AV.sl 1 false (bys r)]] (AOut.ret AV.dead) [AObj.box [int (CV.k v), int (CV.n v), str (CV.s v), AV.sl 4 false (encL (CV.l v))], AObj.box [int 0], AObj.box [AV.sl 1 false (bys r)]] (AOut.ret AV.dead)]) := by kernel_rfl

theorem dec_ok (l r : List UInt8) (v : CV) (hr0 : r.length = 0) (hv : CallC P G 28 [.ptr 0 0, int ((0 : Nat) : Int)] (rdr l) (.ret (val v)) (rdr r)) (h : True) : CallC P G 14 [byt l] [] (AOut.ret (AV.tup [val v, int 0])) [] := by
  have _ := h
  exact callC_of_run _ (dec_ok_p1 l r v) ⟨(@hv ), Sub.of_eq (by simp only [Go.Cdc.bys_length]), (by have h0 := (@Go.Cdc.want_c (AObj.box [AV.sl 1 false (bys r)]) ((↑(List.length r) : Int) == 0)); simp only [if_pos (show ((↑(List.length r) : Int) == 0) = true from decide_eq_true (by omega))] at h0; exact h0), (@Go.Cdc.def_ret (AObj.box [int (CV.k v), int (CV.n v), str (CV.s v), AV.sl 4 false (encL (CV.l v))]) (AObj.box [int 0]) (AObj.box [AV.sl 1 false (bys r)])), trivial⟩


theorem dec_more_p1 (l : List UInt8) (r : List UInt8) (v : CV) : runF P G 14 [byt l] [] [Orc.call [2] (AOut.ret (val v)) (rdr r), Orc.val (some 16) (int (↑(List.length r) : Int)), Orc.call [2] (AOut.pan badErr) [AObj.box [AV.sl 1 false (bys r)]], Orc.dcall (AOut.ret AV.dead) [AObj.box [int 0, int 0, str { data := #[] }, nilS], AObj.box [int 10], AObj.box [AV.sl 1 false (bys r)]]] =
    some (AOut.ret (AV.tup [AV.agg [int 0, int 0, str { data := #[] }, nilS], int 10]), [], [CallC P G 28 [AV.ptr 0 0, int 0] [AObj.box [AV.sl 1 false (bys l)]] (AOut.ret (AV.agg [int (CV.k v), int (CV.n v), str (CV.s v), AV.sl 4 false (encL (CV.l v))])) [AObj.box [AV.sl 1 false (bys r)]], Am.Sub (int (↑(List.length (bys r)) : Int)) (int (↑(List.length r) : Int)), CallC P G 29 [AV.ptr 0 0, Am.bool ((↑(List.length r) : Int) == 0)] [AObj.box [AV.sl 1 false (bys r)]] (AOut.pan (AV.ifc 28 (int 10))) [AObj.box [AV.sl 1 false (bys r)]], DefC P G 27 [AV.ptr 0 0, AV.ptr 1 0] [AObj.box [int (CV.k v), int (CV.n v), str (CV.s v), AV.sl 4 false (encL (CV.l v))], AObj.box [int 0], AObj.box [AV.sl 1 false (bys r)]] (AOut.pan (AV.ifc 28 (int 10))) [AObj.box [int 0, int 0, str { data := #[] }, nilS], AObj.box [int 10], AObj.box [AV.sl 1 false (bys r)]] (AOut.ret AV.dead)]) := by kernel_rfl

theorem dec_more (l r : List UInt8) (v : CV) (hr0 : 0 < r.length) (hv : CallC P G 28 [.ptr 0 0, int ((0 : Nat) : Int)] (rdr l) (.ret (val v)) (rdr r)) (h : True) : CallC P G 14 [byt l] [] (AOut.ret (AV.tup [val default, int 10])) [] := by
  have _ := h
  exact CallC.out (callC_of_run _ (dec_more_p1 l r v) ⟨(@hv ), Sub.of_eq (by simp only [Go.Cdc.bys_length]), (by have h0 := (@Go.Cdc.want_c (AObj.box [AV.sl 1 false (bys r)]) ((↑(List.length r) : Int) == 0)); simp only [if_neg (show ¬ (((↑(List.length r) : Int) == 0) = true) from Bool.eq_false_iff.1 (decide_eq_false (by omega)))] at h0; exact h0), (@Go.Cdc.def_pan (int (CV.k v)) (int (CV.n v)) (str (CV.s v)) (AV.sl 4 false (encL (CV.l v))) (int 0) (AObj.box [AV.sl 1 false (bys r)])), trivial⟩) (Sub.tups ⟨(Sub.aggs ⟨Sub.refl _, Sub.refl _, Sub.refl _, Sub.nil _, trivial⟩), Sub.refl _, trivial⟩)


theorem dec_bad_p1 (l : List UInt8) : runF P G 14 [byt l] [] [Orc.call [2] (AOut.pan badErr) [AObj.gone], Orc.dcall (AOut.ret AV.dead) [AObj.box [int 0, int 0, str { data := #[] }, nilS], AObj.box [int 10], AObj.gone]] =
    some (AOut.ret (AV.tup [AV.agg [int 0, int 0, str { data := #[] }, nilS], int 10]), [], [CallC P G 28 [AV.ptr 0 0, int 0] [AObj.box [AV.sl 1 false (bys l)]] (AOut.pan (AV.ifc 28 (int 10))) [AObj.gone], DefC P G 27 [AV.ptr 0 0, AV.ptr 1 0] [AObj.box [int 0, int 0, str { data := #[] }, nilS], AObj.box [int 0], AObj.gone] (AOut.pan (AV.ifc 28 (int 10))) [AObj.box [int 0, int 0, str { data := #[] }, nilS], AObj.box [int 10], AObj.gone] (AOut.ret AV.dead)]) := by kernel_rfl

theorem dec_bad (l : List UInt8) (hv : CallC P G 28 [.ptr 0 0, int ((0 : Nat) : Int)] (rdr l) (.pan badErr) [.gone]) (h : True) : CallC P G 14 [byt l] [] (AOut.ret (AV.tup [val default, int 10])) [] := by
  have _ := h
  exact CallC.out (callC_of_run _ (dec_bad_p1 l) ⟨(@hv ), (@Go.Cdc.def_pan (int 0) (int 0) (str { data := #[] }) (nilS) (int 0) (AObj.gone)), trivial⟩) (Sub.tups ⟨(Sub.aggs ⟨Sub.refl _, Sub.refl _, Sub.refl _, Sub.nil _, trivial⟩), Sub.refl _, trivial⟩)


/-- The program's Decode: the value, the error. -/
def decB (l : List UInt8) : Bool := (valF 16 l).1 && (valF 16 l).2.2.isEmpty
def decV (l : List UInt8) : CV := if decB l = true then (valF 16 l).2.1 else default
def decE (l : List UInt8) : Int := if decB l = true then 0 else 10
theorem decode_c (l : List UInt8) (hl : l.length ≤ 1000000000) : CallC P G 14 [byt l] [] (.ret (.tup [val (decV l), int (decE l)])) [] := by
  have hv := (valF_reads 16 0 (by omega)).call l hl
  cases hok : (valF 16 l).1 with
  | false =>
    rw [hok] at hv
    simp only [Bool.false_eq_true, if_false] at hv
    have hb : decB l = false := by simp [decB, hok]
    simp only [decV, decE, hb, Bool.false_eq_true, if_false]
    exact dec_bad l hv trivial
  | true =>
    rw [hok] at hv
    simp only [if_true] at hv
    cases hr : (valF 16 l).2.2 with
    | nil =>
      have hb : decB l = true := by simp [decB, hok, hr]
      simp only [decV, decE, hb, if_true]
      rw [hr] at hv
      exact dec_ok l [] _ rfl hv trivial
    | cons c r =>
      have hb : decB l = false := by simp [decB, hok, hr]
      simp only [decV, decE, hb, Bool.false_eq_true, if_false]
      exact dec_more l _ _ (by rw [hr]; simp) hv trivial

end Go.Cdc
