/- CODEC, 2: the program's reader. -/
import Derived.KernelRfl
import Derived.Test.YtbmimjjhifjofaaC1
namespace Go.Cdc
set_option linter.unusedSimpArgs false
set_option linter.unusedVariables false
open Go Go.Am Go.Proofs

theorem numF_lt : ∀ (l : List UInt8) (u i : Nat), u < 2 ^ (7 * i) → i ≤ 9 → (numF l u i).2.1 < 18446744073709551616 ∧ (numF l u i).2.2.length ≤ l.length
  | [], u, i, hu, hi => ⟨by
      have : 2 ^ (7 * i) ≤ 2 ^ 63 := Nat.pow_le_pow_right (by decide) (by omega)
      have : (2 : Nat) ^ 63 < 18446744073709551616 := by decide
      show u < _; omega, Nat.le_refl _⟩
  | c :: r, u, i, hu, hi => by
    have h0 : u < 18446744073709551616 := by
      have : 2 ^ (7 * i) ≤ 2 ^ 63 := Nat.pow_le_pow_right (by decide) (by omega)
      have : (2 : Nat) ^ 63 < 18446744073709551616 := by decide
      omega
    simp only [numF]
    split
    · exact ⟨h0, by simp⟩
    · rename_i hn
      have hf := digit_fits (c := c.toNat) hu hi (by omega)
      split
      · exact ⟨hf.2, by simp⟩
      · rename_i hc
        have := numF_lt r (u + c.toNat % 128 * 2 ^ (7 * i)) (i + 1) hf.1 (by omega)
        exact ⟨this.1, by simp; omega⟩
theorem numU_lt (l : List UInt8) : numU l < 18446744073709551616 := (numF_lt l 0 0 (by simp) (by omega)).1
theorem numR_le (l : List UInt8) : (numR l).length ≤ l.length := (numF_lt l 0 0 (by simp) (by omega)).2

def lenOk (l : List UInt8) : Bool := numOk l && decide (numU l ≤ (numR l).length)

theorem length_w_p1 (l : List UInt8) : runF P G 43 [AV.ptr 0 0] (rdr l) [Orc.call [0] (AOut.ret (u64 (numU l))) (rdr (numR l)), Orc.val (some 12) (int (↑(List.length (numR l)) : Int)), Orc.call [0] (AOut.ret (AV.tup [])) [AObj.box [AV.sl 1 false (bys (numR l))]], Orc.val (some 17) (int (↑(numU l) : Int))] =
    some (AOut.ret (int (↑(numU l) : Int)), [AObj.box [AV.sl 1 false (bys (numR l))]], [CallC P G 42 [AV.ptr 0 0] [AObj.box [AV.sl 1 false (bys l)]] (AOut.ret (AV.lit (Value.int IntKind.u64 (↑(numU l) : Int)))) [AObj.box [AV.sl 1 false (bys (numR l))]], Am.Sub (int (↑(List.length (bys (numR l))) : Int)) (int (↑(List.length (numR l)) : Int)), CallC P G 29 [AV.ptr 0 0, Am.bool (decide ((↑(numU l) : Int) ≤ IntKind.wrap IntKind.u64 (↑(List.length (numR l)) : Int)))] [AObj.box [AV.sl 1 false (bys (numR l))]] (AOut.ret (AV.tup [])) [AObj.box [AV.sl 1 false (bys (numR l))]], Am.Sub (int (IntKind.wrap IntKind.i64 (↑(numU l) : Int))) (int (↑(numU l) : Int))]) := by kernel_rfl

theorem length_w_p2 (l : List UInt8) : runF P G 43 [AV.ptr 0 0] (rdr l) [Orc.call [0] (AOut.ret (u64 (numU l))) (rdr (numR l)), Orc.val (some 12) (int (↑(List.length (numR l)) : Int)), Orc.call [0] (AOut.pan badErr) [AObj.box [AV.sl 1 false (bys (numR l))]]] =
    some (AOut.pan (AV.ifc 28 (int 10)), [AObj.box [AV.sl 1 false (bys (numR l))]], [CallC P G 42 [AV.ptr 0 0] [AObj.box [AV.sl 1 false (bys l)]] (AOut.ret (AV.lit (Value.int IntKind.u64 (↑(numU l) : Int)))) [AObj.box [AV.sl 1 false (bys (numR l))]], Am.Sub (int (↑(List.length (bys (numR l))) : Int)) (int (↑(List.length (numR l)) : Int)), CallC P G 29 [AV.ptr 0 0, Am.bool (decide ((↑(numU l) : Int) ≤ IntKind.wrap IntKind.u64 (↑(List.length (numR l)) : Int)))] [AObj.box [AV.sl 1 false (bys (numR l))]] (AOut.pan (AV.ifc 28 (int 10))) [AObj.box [AV.sl 1 false (bys (numR l))]]]) := by kernel_rfl

theorem length_w_p3 (l : List UInt8) : runF P G 43 [AV.ptr 0 0] (rdr l) [Orc.call [0] (AOut.pan badErr) (rdr (numR l))] =
    some (AOut.pan (AV.ifc 28 (int 10)), [AObj.box [AV.sl 1 false (bys (numR l))]], [CallC P G 42 [AV.ptr 0 0] [AObj.box [AV.sl 1 false (bys l)]] (AOut.pan (AV.ifc 28 (int 10))) [AObj.box [AV.sl 1 false (bys (numR l))]]]) := by kernel_rfl

theorem length_w (l : List UInt8) (hl : l.length ≤ 1000000000) (hr : (numR l).length ≤ 1000000000) (hu : numU l < 18446744073709551616) (out : AOut) (h : ((((numOk l) = true) → ((((↑(numU l) : Int) ≤ (↑(List.length (numR l) % 18446744073709551616) : Int)) → AOut.ret (int (↑(numU l) : Int)) = out) ∧ ((¬(↑(numU l) : Int) ≤ (↑(List.length (numR l) % 18446744073709551616) : Int)) → AOut.pan (AV.ifc 28 (int 10)) = out))) ∧ (((numOk l) = false) → AOut.pan (AV.ifc 28 (int 10)) = out))) : CallC P G 43 [AV.ptr 0 0] (rdr l) out (rdr (numR l)) := by
  rcases Bool.eq_false_or_eq_true ((numOk l)) with c1 | c1
  · have h := h.1 c1
    by_cases c2 : ((↑(numU l) : Int) ≤ (↑(List.length (numR l) % 18446744073709551616) : Int))
    · have h := h.1 c2
      have e1 := h
      exact e1 ▸ (callC_of_run _ (length_w_p1 l) ⟨(by have h0 := (@Go.Cdc.number_c (l) (by omega)); simp only [if_pos (show numOk l = true from c1)] at h0; exact h0), Sub.of_eq (by simp only [Go.Cdc.bys_length]), (by have h0 := (@Go.Cdc.want_c (AObj.box [AV.sl 1 false (bys (numR l))]) (decide ((↑(numU l) : Int) ≤ (↑(List.length (numR l) % 18446744073709551616) : Int)))); simp only [if_pos (show decide ((↑(numU l) : Int) ≤ (↑(List.length (numR l) % 18446744073709551616) : Int)) = true from decide_eq_true c2)] at h0; exact h0), Sub.of_wrap (by omega) (by omega) rfl, trivial⟩)
    · have h := h.2 c2
      have e1 := h
      exact e1 ▸ (callC_of_run _ (length_w_p2 l) ⟨(by have h0 := (@Go.Cdc.number_c (l) (by omega)); simp only [if_pos (show numOk l = true from c1)] at h0; exact h0), Sub.of_eq (by simp only [Go.Cdc.bys_length]), (by have h0 := (@Go.Cdc.want_c (AObj.box [AV.sl 1 false (bys (numR l))]) (decide ((↑(numU l) : Int) ≤ (↑(List.length (numR l) % 18446744073709551616) : Int)))); simp only [if_neg (show ¬ (decide ((↑(numU l) : Int) ≤ (↑(List.length (numR l) % 18446744073709551616) : Int)) = true) from Bool.eq_false_iff.1 (decide_eq_false c2))] at h0; exact h0), trivial⟩)
  · have h := h.2 c1
    have e1 := h
    exact e1 ▸ (callC_of_run _ (length_w_p3 l) ⟨(by have h0 := (@Go.Cdc.number_c (l) (by omega)); simp only [if_neg (show ¬ (numOk l = true) from Bool.eq_false_iff.1 (c1))] at h0; exact h0), trivial⟩)


theorem length_c (l : List UInt8) (hl : l.length ≤ 1000000000) : CallC P G 43 [.ptr 0 0] (rdr l) (if lenOk l = true then .ret (int (numU l)) else .pan badErr) (rdr (numR l)) := by
  have h1 := numR_le l
  refine length_w l hl (by omega) (numU_lt l) _ ⟨fun h => ⟨fun h2 => ?_, fun h2 => ?_⟩, fun h => ?_⟩
  · rw [if_pos (by simp only [lenOk, h, Bool.true_and, decide_eq_true_eq]; omega)]
  · rw [if_neg (by simp only [lenOk, h, Bool.true_and, decide_eq_true_eq]; omega)]; rfl
  · rw [if_neg (by simp [lenOk, h])]; rfl

theorem signed_w_p1 (u : Nat) : runF P G 41 [u64 u] [] [] =
    some (AOut.ret (int (IntKind.wrap IntKind.i64 (↑(BitVec.toNat (BitVec.ofInt (IntKind.bits IntKind.i64) (IntKind.wrap IntKind.i64 (Int.fdiv (↑u : Int) (2 ^ min (Int.toNat 1) (IntKind.bits IntKind.u64)))) ^^^ BitVec.ofInt (IntKind.bits IntKind.i64) (IntKind.wrap IntKind.i64 (0 - IntKind.wrap IntKind.i64 (IntKind.wrap IntKind.u64 (↑(BitVec.toNat (BitVec.ofInt (IntKind.bits IntKind.u64) (↑u : Int) &&& BitVec.ofInt (IntKind.bits IntKind.u64) 1)) : Int)))))) : Int))), [], [(0 : Int) ≤ (1 : Int)]) := by kernel_rfl

theorem signed_w (u : Nat) (hu : u < 18446744073709551616) (v : Int) (h : (IntKind.wrap IntKind.i64 (↑(BitVec.toNat (BitVec.ofInt (IntKind.bits IntKind.i64) (IntKind.wrap IntKind.i64 (Int.fdiv (↑u : Int) (2 ^ min (Int.toNat 1) (IntKind.bits IntKind.u64)))) ^^^ BitVec.ofInt (IntKind.bits IntKind.i64) (IntKind.wrap IntKind.i64 (0 - IntKind.wrap IntKind.i64 (IntKind.wrap IntKind.u64 (↑(BitVec.toNat (BitVec.ofInt (IntKind.bits IntKind.u64) (↑u : Int) &&& BitVec.ofInt (IntKind.bits IntKind.u64) 1)) : Int)))))) : Int) : Int) = (v)) : CallC P G 41 [u64 u] [] (AOut.ret (int v)) [] := by
  have e1 := h
  exact CallC.out (callC_of_run _ (signed_w_p1 u) ⟨(by omega), trivial⟩) (Sub.int_eq e1)


def sgn (u : Nat) : Int := if u % 2 = 0 then ((u / 2 : Nat) : Int) else -((u / 2 : Nat) : Int) - 1
theorem wrap_i64_nat (n : Nat) (h : n < 18446744073709551616) : IntKind.wrap .i64 (n : Int) = if n < 9223372036854775808 then (n : Int) else (n : Int) - 18446744073709551616 := by
  show (let m := (n : Int) % (2 ^ 64 : Int); if (IntKind.i64.signed && m ≥ (2 ^ (64 - 1) : Int)) = true then m - (2 ^ 64 : Int) else m) = _
  have e : (n : Int) % (2 ^ 64 : Int) = n := by
    rw [show (2 : Int) ^ 64 = 18446744073709551616 from by decide]; omega
  simp only [e, IntKind.signed, Bool.true_and, decide_eq_true_eq]
  rw [show (2 : Int) ^ (64 - 1) = 9223372036854775808 from by decide, show (2 : Int) ^ 64 = 18446744073709551616 from by decide]
  split <;> split <;> omega
theorem sgn_eq {u : Nat} (hu : u < 18446744073709551616) : IntKind.wrap IntKind.i64 (↑(BitVec.toNat (BitVec.ofInt (IntKind.bits IntKind.i64) (IntKind.wrap IntKind.i64 (Int.fdiv (↑u : Int) (2 ^ min (Int.toNat 1) (IntKind.bits IntKind.u64)))) ^^^ BitVec.ofInt (IntKind.bits IntKind.i64) (IntKind.wrap IntKind.i64 (0 - IntKind.wrap IntKind.i64 (IntKind.wrap IntKind.u64 (↑(BitVec.toNat (BitVec.ofInt (IntKind.bits IntKind.u64) (↑u : Int) &&& BitVec.ofInt (IntKind.bits IntKind.u64) 1)) : Int)))))) : Int) = sgn u := by
  have e1 : min (Int.toNat 1) (IntKind.bits IntKind.u64) = 1 := by decide
  have e2 : Int.fdiv (u : Int) (2 ^ 1) = ((u / 2 : Nat) : Int) := by
    show Int.fdiv (u : Int) ((2 : Nat) : Int) = _
    rw [Int.fdiv_eq_ediv_of_nonneg _ (by decide)]; omega
  have hb : u / 2 < 9223372036854775808 := by omega
  have e3 : (BitVec.ofInt (IntKind.bits IntKind.u64) (u : Int) &&& BitVec.ofInt (IntKind.bits IntKind.u64) 1).toNat = u % 2 := by
    have : (1 : Int) = ((1 : Nat) : Int) := rfl
    rw [BitVec.toNat_and, this, ofInt_nat, ofInt_nat]
    show (u % 2 ^ 64) &&& (1 % 2 ^ 64) = _
    rw [Nat.mod_eq_of_lt (show u < 2 ^ 64 by omega), Nat.mod_eq_of_lt (show 1 < 2 ^ 64 by decide)]
    exact Nat.and_two_pow_sub_one_eq_mod u 1
  rw [e1, e2, e3, wrap_i64_nat (u / 2) (by omega), if_pos hb, wrap64 (show u % 2 < 18446744073709551616 by omega), wrap_i64_nat (u % 2) (by omega), if_pos (by omega)]
  have e4 : ∀ n : Nat, (BitVec.ofInt (IntKind.bits IntKind.i64) (n : Int)).toNat = n % 2 ^ 64 := fun n => ofInt_nat _ n
  unfold sgn
  rcases Nat.mod_two_eq_zero_or_one u with h | h
  · rw [h, if_pos rfl]
    have : IntKind.wrap IntKind.i64 (0 - ((0 : Nat) : Int)) = ((0 : Nat) : Int) := by decide
    rw [this, BitVec.toNat_xor, e4, e4, Nat.mod_eq_of_lt (show u / 2 < 2 ^ 64 by omega)]
    show IntKind.wrap IntKind.i64 (((u / 2) ^^^ 0 : Nat) : Int) = _
    rw [Nat.xor_zero, wrap_i64_nat _ (by omega), if_pos hb]
  · rw [h, if_neg (by decide)]
    have : IntKind.wrap IntKind.i64 (0 - ((1 : Nat) : Int)) = -1 := by decide
    rw [this]
    have h5 : BitVec.ofInt 64 (-1) = BitVec.allOnes 64 := by decide
    show IntKind.wrap IntKind.i64 ((BitVec.ofInt 64 ((u / 2 : Nat) : Int) ^^^ BitVec.ofInt 64 (-1)).toNat : Int) = _
    rw [h5, BitVec.xor_allOnes, BitVec.toNat_not, ofInt_nat, Nat.mod_eq_of_lt (show u / 2 < 2 ^ 64 by omega)]
    have h7 : (2 : Nat) ^ 64 = 18446744073709551616 := by decide
    rw [h7, wrap_i64_nat _ (by omega), if_neg (by omega)]
    omega
theorem signed_c (u : Nat) (hu : u < 18446744073709551616) : CallC P G 41 [u64 u] [] (.ret (int (sgn u))) [] := signed_w u hu _ (sgn_eq hu)

/-! A value -/
theorem val_nil_p1 (dep : Nat) : runF P G 28 [AV.ptr 0 0, int (↑dep : Int)] (rdr []) [Orc.call [0] (AOut.pan badErr) (rdr [])] =
    some (AOut.pan (AV.ifc 28 (int 10)), [AObj.box [AV.sl 1 false []]], [CallC P G 40 [AV.ptr 0 0, int 1] [AObj.box [AV.sl 1 false []]] (AOut.pan (AV.ifc 28 (int 10))) [AObj.box [AV.sl 1 false []]]]) := by kernel_rfl

theorem val_nil (dep : Nat) (h : True) : CallC P G 28 [AV.ptr 0 0, int (↑dep : Int)] (rdr []) (AOut.pan badErr) [AObj.gone] := by
  have _ := h
  exact CallC.heapSub (callC_of_run _ (val_nil_p1 dep) ⟨(@Go.Cdc.one_nil ), trivial⟩) (by exact ⟨.inr trivial, trivial⟩)


theorem val_bad_p1 (dep : Nat) (c : UInt8) (r : List UInt8) : runF P G 28 [AV.ptr 0 0, int (↑dep : Int)] (rdrC c r) [Orc.call [0] (AOut.ret (AV.sl 1 false [[AV.lit (Value.int IntKind.u8 (↑(UInt8.toNat c) : Int))]])) (rdr r), Orc.elem [AV.lit (Value.int IntKind.u8 (↑(UInt8.toNat c) : Int))], Orc.val (some 9) (int (↑(UInt8.toNat c) : Int)), Orc.br false, Orc.br false, Orc.br false, Orc.call [0] (AOut.pan badErr) [AObj.box [AV.sl 1 false (bys r)]]] =
    some (AOut.pan (AV.ifc 28 (int 10)), [AObj.box [AV.sl 1 false (bys r)]], [CallC P G 40 [AV.ptr 0 0, int 1] [AObj.box [AV.sl 1 false ([AV.lit (Value.int IntKind.u8 (↑(UInt8.toNat c) : Int))] :: bys r)]] (AOut.ret (AV.sl 1 false [[AV.lit (Value.int IntKind.u8 (↑(UInt8.toNat c) : Int))]])) [AObj.box [AV.sl 1 false (bys r)]], (0 : Int) ≤ (0 : Int) ∧ [[AV.lit (Value.int IntKind.u8 (↑(UInt8.toNat c) : Int))]][Int.toNat 0]? = some [AV.lit (Value.int IntKind.u8 (↑(UInt8.toNat c) : Int))], Am.Sub (int (IntKind.wrap IntKind.i64 (↑(UInt8.toNat c) : Int))) (int (↑(UInt8.toNat c) : Int)), ((↑(UInt8.toNat c) : Int) == 1) = false, ((↑(UInt8.toNat c) : Int) == 2) = false, ((↑(UInt8.toNat c) : Int) == 3) = false, CallC P G 29 [AV.ptr 0 0, Am.bool false] [AObj.box [AV.sl 1 false (bys r)]] (AOut.pan (AV.ifc 28 (int 10))) [AObj.box [AV.sl 1 false (bys r)]]]) := by kernel_rfl

theorem val_bad (dep : Nat) (c : UInt8) (r : List UInt8) (hl : r.length ≤ 999999999) (hc : c.toNat < 256) (h1 : c.toNat ≠ 1) (h2 : c.toNat ≠ 2) (h3 : c.toNat ≠ 3) (h : True) : CallC P G 28 [AV.ptr 0 0, int (↑dep : Int)] (rdrC c r) (AOut.pan badErr) [AObj.gone] := by
  have _ := h
  exact CallC.heapSub (callC_of_run _ (val_bad_p1 dep c r) ⟨(@Go.Cdc.one_any (AV.lit (Value.int IntKind.u8 (↑(UInt8.toNat c) : Int))) (r) (by omega)), ⟨by decide, rfl⟩, Sub.of_wrap (by omega) (by omega) rfl, (decide_eq_false (by omega)), (decide_eq_false (by omega)), (decide_eq_false (by omega)), (by have h0 := (@Go.Cdc.want_c (AObj.box [AV.sl 1 false (bys r)]) (false)); simp only [if_neg (show ¬ (false = true) from Bool.eq_false_iff.1 (rfl))] at h0; exact h0), trivial⟩) (by exact ⟨.inr trivial, trivial⟩)


def mkI (n : Int) : CV := .mk 1 n .empty []
def mkT (s : ByteArray) : CV := .mk 2 0 s []
def mkL (l : List CV) : CV := .mk 3 0 .empty l

theorem val_int_p1 (dep : Nat) (r : List UInt8) : runF P G 28 [AV.ptr 0 0, int (↑dep : Int)] (rdrC 1 r) [Orc.call [0] (AOut.ret (AV.sl 1 false [[AV.lit (Value.int IntKind.u8 1)]])) (rdr r), Orc.elem [AV.lit (Value.int IntKind.u8 1)], Orc.br true, Orc.call [0] (AOut.ret (u64 (numU r))) (rdr (numR r)), Orc.call [] (AOut.ret (int (sgn (numU r)))) []] =
    some (AOut.ret (AV.agg [int 1, int (sgn (numU r)), str { data := #[] }, nilS]), [AObj.box [AV.sl 1 false (bys (numR r))]], [CallC P G 40 [AV.ptr 0 0, int 1] [AObj.box [AV.sl 1 false ([AV.lit (Value.int IntKind.u8 1)] :: bys r)]] (AOut.ret (AV.sl 1 false [[AV.lit (Value.int IntKind.u8 1)]])) [AObj.box [AV.sl 1 false (bys r)]], (0 : Int) ≤ (0 : Int) ∧ [[AV.lit (Value.int IntKind.u8 1)]][Int.toNat 0]? = some [AV.lit (Value.int IntKind.u8 1)], true = true, CallC P G 42 [AV.ptr 0 0] [AObj.box [AV.sl 1 false (bys r)]] (AOut.ret (AV.lit (Value.int IntKind.u64 (↑(numU r) : Int)))) [AObj.box [AV.sl 1 false (bys (numR r))]], CallC P G 41 [AV.lit (Value.int IntKind.u64 (↑(numU r) : Int))] [] (AOut.ret (int (sgn (numU r)))) []]) := by kernel_rfl

theorem val_int (dep : Nat) (r : List UInt8) (hl : r.length ≤ 999999999) (hu : numU r < 18446744073709551616) (hok : numOk r = true) (h : True) : CallC P G 28 [AV.ptr 0 0, int (↑dep : Int)] (rdrC 1 r) (AOut.ret (val (mkI (sgn (numU r))))) (rdr (numR r)) := by
  have _ := h
  exact CallC.out (callC_of_run _ (val_int_p1 dep r) ⟨(@Go.Cdc.one_any (AV.lit (Value.int IntKind.u8 1)) (r) (by omega)), ⟨by decide, rfl⟩, (rfl), (by have h0 := (@Go.Cdc.number_c (r) (by omega)); simp only [if_pos (show numOk r = true from hok)] at h0; exact h0), (@Go.Cdc.signed_c (numU r) (by omega)), trivial⟩) (Sub.aggs ⟨Sub.refl _, Sub.refl _, Sub.refl _, Sub.nil _, trivial⟩)


theorem val_int_x_p1 (dep : Nat) (r : List UInt8) : runF P G 28 [AV.ptr 0 0, int (↑dep : Int)] (rdrC 1 r) [Orc.call [0] (AOut.ret (AV.sl 1 false [[AV.lit (Value.int IntKind.u8 1)]])) (rdr r), Orc.elem [AV.lit (Value.int IntKind.u8 1)], Orc.br true, Orc.call [0] (AOut.pan badErr) (rdr (numR r))] =
    some (AOut.pan (AV.ifc 28 (int 10)), [AObj.box [AV.sl 1 false (bys (numR r))]], [CallC P G 40 [AV.ptr 0 0, int 1] [AObj.box [AV.sl 1 false ([AV.lit (Value.int IntKind.u8 1)] :: bys r)]] (AOut.ret (AV.sl 1 false [[AV.lit (Value.int IntKind.u8 1)]])) [AObj.box [AV.sl 1 false (bys r)]], (0 : Int) ≤ (0 : Int) ∧ [[AV.lit (Value.int IntKind.u8 1)]][Int.toNat 0]? = some [AV.lit (Value.int IntKind.u8 1)], true = true, CallC P G 42 [AV.ptr 0 0] [AObj.box [AV.sl 1 false (bys r)]] (AOut.pan (AV.ifc 28 (int 10))) [AObj.box [AV.sl 1 false (bys (numR r))]]]) := by kernel_rfl

theorem val_int_x (dep : Nat) (r : List UInt8) (hl : r.length ≤ 999999999) (hok : numOk r = false) (h : True) : CallC P G 28 [AV.ptr 0 0, int (↑dep : Int)] (rdrC 1 r) (AOut.pan badErr) [AObj.gone] := by
  have _ := h
  exact CallC.heapSub (callC_of_run _ (val_int_x_p1 dep r) ⟨(@Go.Cdc.one_any (AV.lit (Value.int IntKind.u8 1)) (r) (by omega)), ⟨by decide, rfl⟩, (rfl), (by have h0 := (@Go.Cdc.number_c (r) (by omega)); simp only [if_neg (show ¬ (numOk r = true) from Bool.eq_false_iff.1 (hok))] at h0; exact h0), trivial⟩) (by exact ⟨.inr trivial, trivial⟩)


theorem val_txt_p1 (dep : Nat) (r : List UInt8) : runF P G 28 [AV.ptr 0 0, int (↑dep : Int)] (rdrC 2 r) [Orc.call [0] (AOut.ret (AV.sl 1 false [[AV.lit (Value.int IntKind.u8 2)]])) (rdr r), Orc.elem [AV.lit (Value.int IntKind.u8 2)], Orc.br false, Orc.br true, Orc.call [0] (AOut.ret (int (↑(numU r) : Int))) (rdr (numR r)), Orc.call [0] (AOut.ret (byt (List.take (numU r) (numR r)))) (rdr (List.drop (numU r) (numR r))), Orc.bytes { data := List.toArray (List.take (numU r) (numR r)) }] =
    some (AOut.ret (AV.agg [int 2, int 0, str { data := List.toArray (List.take (numU r) (numR r)) }, nilS]), [AObj.box [AV.sl 1 false (bys (List.drop (numU r) (numR r)))]], [CallC P G 40 [AV.ptr 0 0, int 1] [AObj.box [AV.sl 1 false ([AV.lit (Value.int IntKind.u8 2)] :: bys r)]] (AOut.ret (AV.sl 1 false [[AV.lit (Value.int IntKind.u8 2)]])) [AObj.box [AV.sl 1 false (bys r)]], (0 : Int) ≤ (0 : Int) ∧ [[AV.lit (Value.int IntKind.u8 2)]][Int.toNat 0]? = some [AV.lit (Value.int IntKind.u8 2)], false = false, true = true, CallC P G 43 [AV.ptr 0 0] [AObj.box [AV.sl 1 false (bys r)]] (AOut.ret (int (↑(numU r) : Int))) [AObj.box [AV.sl 1 false (bys (numR r))]], CallC P G 40 [AV.ptr 0 0, int (↑(numU r) : Int)] [AObj.box [AV.sl 1 false (bys (numR r))]] (AOut.ret (AV.sl 1 false (bys (List.take (numU r) (numR r))))) [AObj.box [AV.sl 1 false (bys (List.drop (numU r) (numR r)))]], bys (List.take (numU r) (numR r)) = List.map (fun (c : UInt8) => [AV.lit (Value.int IntKind.u8 (↑(UInt8.toNat c) : Int))]) (Array.toList { toList := List.take (numU r) (numR r) })]) := by kernel_rfl

theorem val_txt (dep : Nat) (r : List UInt8) (hl : r.length ≤ 999999999) (hu : numU r < 18446744073709551616) (hr : (numR r).length ≤ 999999999) (hok : lenOk r = true) (hle : numU r ≤ (numR r).length) (h : True) : CallC P G 28 [AV.ptr 0 0, int (↑dep : Int)] (rdrC 2 r) (AOut.ret (val (mkT { data := List.toArray (List.take (numU r) (numR r)) }))) (rdr (List.drop (numU r) (numR r))) := by
  have _ := h
  exact CallC.out (callC_of_run _ (val_txt_p1 dep r) ⟨(@Go.Cdc.one_any (AV.lit (Value.int IntKind.u8 2)) (r) (by omega)), ⟨by decide, rfl⟩, (rfl), (rfl), (by have h0 := (@Go.Cdc.length_c (r) (by omega)); simp only [if_pos (show lenOk r = true from hok)] at h0; exact h0), (@Go.Cdc.take_t (numR r) (numU r) (by omega) (by omega)), (rfl), trivial⟩) (Sub.aggs ⟨Sub.refl _, Sub.refl _, Sub.refl _, Sub.nil _, trivial⟩)


theorem val_txt_x_p1 (dep : Nat) (r : List UInt8) : runF P G 28 [AV.ptr 0 0, int (↑dep : Int)] (rdrC 2 r) [Orc.call [0] (AOut.ret (AV.sl 1 false [[AV.lit (Value.int IntKind.u8 2)]])) (rdr r), Orc.elem [AV.lit (Value.int IntKind.u8 2)], Orc.br false, Orc.br true, Orc.call [0] (AOut.pan badErr) (rdr (numR r))] =
    some (AOut.pan (AV.ifc 28 (int 10)), [AObj.box [AV.sl 1 false (bys (numR r))]], [CallC P G 40 [AV.ptr 0 0, int 1] [AObj.box [AV.sl 1 false ([AV.lit (Value.int IntKind.u8 2)] :: bys r)]] (AOut.ret (AV.sl 1 false [[AV.lit (Value.int IntKind.u8 2)]])) [AObj.box [AV.sl 1 false (bys r)]], (0 : Int) ≤ (0 : Int) ∧ [[AV.lit (Value.int IntKind.u8 2)]][Int.toNat 0]? = some [AV.lit (Value.int IntKind.u8 2)], false = false, true = true, CallC P G 43 [AV.ptr 0 0] [AObj.box [AV.sl 1 false (bys r)]] (AOut.pan (AV.ifc 28 (int 10))) [AObj.box [AV.sl 1 false (bys (numR r))]]]) := by kernel_rfl

theorem val_txt_x (dep : Nat) (r : List UInt8) (hl : r.length ≤ 999999999) (hok : lenOk r = false) (h : True) : CallC P G 28 [AV.ptr 0 0, int (↑dep : Int)] (rdrC 2 r) (AOut.pan badErr) [AObj.gone] := by
  have _ := h
  exact CallC.heapSub (callC_of_run _ (val_txt_x_p1 dep r) ⟨(@Go.Cdc.one_any (AV.lit (Value.int IntKind.u8 2)) (r) (by omega)), ⟨by decide, rfl⟩, (rfl), (rfl), (by have h0 := (@Go.Cdc.length_c (r) (by omega)); simp only [if_neg (show ¬ (lenOk r = true) from Bool.eq_false_iff.1 (hok))] at h0; exact h0), trivial⟩) (by exact ⟨.inr trivial, trivial⟩)


/-! A list's elements -/
def lst0 (dep : Nat) (rest : List UInt8) (N : Nat) : St := { env := slots 50 [(0, .ptr 0 0), (1, int dep), (4, .ptr 1 0), (36, int N), (37, int 0)], H := [.box [byt rest], .box [int 3, int 0, str { data := #[] }, nilS]] }
def lst1 (dep : Nat) (rest : List UInt8) (N i g : Nat) (vs : List CV) : St := { env := slots 50 [(0, .ptr 0 0), (1, int dep), (4, .ptr 1 0), (36, int N), (37, int i)], H := [.box [byt rest], .box [int 3, int 0, str { data := #[] }, .own 2 g 0 vs.length], .arr g 4 false (encL vs)] }

theorem lst0_end_p1 (dep : Nat) (rest : List UInt8) (N : Nat) : loopExit P G none 1 (loopAt P 28 0) (lst0 dep rest N) [Orc.br false] (others 50 [4]) 2 =
    some (AEx.exit 1, { env := slots 50 [(4, AV.ptr 1 0)], H := [AObj.box [AV.sl 1 false (bys rest)], AObj.box [int 3, int 0, str { data := #[] }, nilS]] }, [decide ((0 : Int) < (↑N : Int)) = false]) := by kernel_rfl

theorem lst0_end (dep : Nat) (rest : List UInt8) (N : Nat) (hN : N = 0) (h : True) : RunL P G none 1 (loopAt P 28 0) (lst0 dep rest N) (AEx.exit 1) { env := slots 50 [(4, AV.ptr 1 0)], H := [AObj.box [byt rest], AObj.box [int 3, int 0, str { data := #[] }, nilS]] } := by
  have _ := h
  exact RunL.exit _ _ _ (lst0_end_p1 dep rest N) ⟨(decide_eq_false (by omega)), trivial⟩


theorem lst0_ok_p1 (dep : Nat) (rest : List UInt8) (rest' : List UInt8) (N : Nat) (v : CV) : loopStep P G none 1 (loopAt P 28 0) (lst0 dep rest N) [Orc.br true, Orc.val (some 43) (int (↑(dep + 1) : Int)), Orc.call [0] (AOut.ret (val v)) (rdr rest')] (others 50 [0, 1, 4, 36, 37]) 3 =
    some ({ env := slots 50 [(0, AV.ptr 0 0), (1, int (↑dep : Int)), (4, AV.ptr 1 0), (36, int (↑N : Int)), (37, int 1)], H := [AObj.box [AV.sl 1 false (bys rest')], AObj.box [int 3, int 0, str { data := #[] }, AV.own 2 0 0 1], AObj.arr 0 4 false [[int (CV.k v), int (CV.n v), str (CV.s v), AV.sl 4 false (encL (CV.l v))]]] }, [decide ((0 : Int) < (↑N : Int)) = true, Am.Sub (int (IntKind.wrap IntKind.i64 ((↑dep : Int) + 1))) (int (↑(dep + 1) : Int)), CallC P G 28 [AV.ptr 0 0, int (↑(dep + 1) : Int)] [AObj.box [AV.sl 1 false (bys rest)]] (AOut.ret (AV.agg [int (CV.k v), int (CV.n v), str (CV.s v), AV.sl 4 false (encL (CV.l v))])) [AObj.box [AV.sl 1 false (bys rest')]], [[int (CV.k v), int (CV.n v), str (CV.s v), AV.sl 4 false (encL (CV.l v))]] ≠ [], 56 ≤ 140737488355328]) := by kernel_rfl

theorem lst0_ok (dep : Nat) (rest rest' : List UInt8) (N : Nat) (hd : dep < 16) (hN : 0 < N) (hN2 : N ≤ 1000000000) (v : CV) (hv : CallC P G 28 [.ptr 0 0, int ((dep + 1 : Nat) : Int)] (rdr rest) (.ret (val v)) (rdr rest')) (ex : AEx) (s' : St) (h : RunL P G none 1 (loopAt P 28 0) { env := slots 50 [(0, AV.ptr 0 0), (1, int (↑dep : Int)), (4, AV.ptr 1 0), (36, int (↑N : Int)), (37, int 1)], H := [AObj.box [AV.sl 1 false (bys rest')], AObj.box [int 3, int 0, str { data := #[] }, AV.own 2 0 0 1], AObj.arr 0 4 false [[int (CV.k v), int (CV.n v), str (CV.s v), AV.sl 4 false (encL (CV.l v))]]] } ex s') : RunL P G none 1 (loopAt P 28 0) (lst0 dep rest N) ex s' := by
  exact RunL.next _ _ _ (lst0_ok_p1 dep rest rest' N v) ⟨(decide_eq_true (by omega)), Sub.of_wrap (by omega) (by omega) (by omega), (@hv ), (by simp), (by omega), trivial⟩ h


theorem lst0_bad_p1 (dep : Nat) (rest : List UInt8) (N : Nat) : loopExit P G none 1 (loopAt P 28 0) (lst0 dep rest N) [Orc.br true, Orc.at_ 5, Orc.val (some 43) (int (↑(dep + 1) : Int)), Orc.call [0] (AOut.pan badErr) [AObj.gone]] (others 50 []) 1 =
    some (AEx.pan (AV.ifc 28 (int 10)), { env := slots 50 [], H := [AObj.gone] }, [decide ((0 : Int) < (↑N : Int)) = true, Am.Sub (int (IntKind.wrap IntKind.i64 ((↑dep : Int) + 1))) (int (↑(dep + 1) : Int)), CallC P G 28 [AV.ptr 0 0, int (↑(dep + 1) : Int)] [AObj.box [AV.sl 1 false (bys rest)]] (AOut.pan (AV.ifc 28 (int 10))) [AObj.gone]]) := by kernel_rfl

theorem lst0_bad (dep : Nat) (rest : List UInt8) (N : Nat) (hd : dep < 16) (hN : 0 < N) (hN2 : N ≤ 1000000000) (hv : CallC P G 28 [.ptr 0 0, int ((dep + 1 : Nat) : Int)] (rdr rest) (.pan badErr) [.gone]) (h : True) : RunL P G none 1 (loopAt P 28 0) (lst0 dep rest N) (AEx.pan badErr) { env := slots 50 [], H := [AObj.gone] } := by
  have _ := h
  exact RunL.exit _ _ _ (lst0_bad_p1 dep rest N) ⟨(decide_eq_true (by omega)), Sub.of_wrap (by omega) (by omega) (by omega), (@hv ), trivial⟩


theorem lst1_end_p1 (dep : Nat) (rest : List UInt8) (N : Nat) (i : Nat) (g : Nat) (vs : List CV) : loopExit P G none 1 (loopAt P 28 0) (lst1 dep rest N i g vs) [Orc.br false] (others 50 [4]) 3 =
    some (AEx.exit 1, { env := slots 50 [(4, AV.ptr 1 0)], H := [AObj.box [AV.sl 1 false (bys rest)], AObj.box [int 3, int 0, str { data := #[] }, AV.own 2 g 0 (List.length vs)], AObj.arr g 4 false (encL vs)] }, [decide ((↑i : Int) < (↑N : Int)) = false]) := by kernel_rfl

theorem lst1_end (dep : Nat) (rest : List UInt8) (N i g : Nat) (vs : List CV) (hN : N ≤ i) (h : True) : RunL P G none 1 (loopAt P 28 0) (lst1 dep rest N i g vs) (AEx.exit 1) { env := slots 50 [(4, AV.ptr 1 0)], H := [AObj.box [byt rest], AObj.box [int 3, int 0, str { data := #[] }, AV.own 2 g 0 (List.length vs)], AObj.arr g 4 false (encL vs)] } := by
  have _ := h
  exact RunL.exit _ _ _ (lst1_end_p1 dep rest N i g vs) ⟨(decide_eq_false (by omega)), trivial⟩


theorem lst1_ok_p1 (dep : Nat) (rest : List UInt8) (rest' : List UInt8) (N : Nat) (i : Nat) (g : Nat) (vs : List CV) (v : CV) : loopStep P G none 1 (loopAt P 28 0) (lst1 dep rest N i g vs) [Orc.br true, Orc.val (some 43) (int (↑(dep + 1) : Int)), Orc.call [0] (AOut.ret (val v)) (rdr rest'), Orc.val (some 48) (int (↑(i + 1) : Int))] (others 50 [0, 1, 4, 36, 37]) 3 =
    some ({ env := slots 50 [(0, AV.ptr 0 0), (1, int (↑dep : Int)), (4, AV.ptr 1 0), (36, int (↑N : Int)), (37, int (↑(i + 1) : Int))], H := [AObj.box [AV.sl 1 false (bys rest')], AObj.box [int 3, int 0, str { data := #[] }, AV.own 2 (g + 1) 0 (List.length vs + 1)], AObj.arr (g + 1) 4 false (encL vs ++ [[int (CV.k v), int (CV.n v), str (CV.s v), AV.sl 4 false (encL (CV.l v))]])] }, [decide ((↑i : Int) < (↑N : Int)) = true, Am.Sub (int (IntKind.wrap IntKind.i64 ((↑dep : Int) + 1))) (int (↑(dep + 1) : Int)), CallC P G 28 [AV.ptr 0 0, int (↑(dep + 1) : Int)] [AObj.box [AV.sl 1 false (bys rest)]] (AOut.ret (AV.agg [int (CV.k v), int (CV.n v), str (CV.s v), AV.sl 4 false (encL (CV.l v))])) [AObj.box [AV.sl 1 false (bys rest')]], g = g, List.length vs = List.length (encL vs), (List.length vs + 1) * 56 ≤ 140737488355328, Am.Sub (int (IntKind.wrap IntKind.i64 ((↑i : Int) + 1))) (int (↑(i + 1) : Int))]) := by kernel_rfl

theorem lst1_ok (dep : Nat) (rest rest' : List UInt8) (N i g : Nat) (vs : List CV) (hd : dep < 16) (hN : i < N) (hN2 : N ≤ 1000000000) (hvs : vs.length ≤ 1000000000) (v : CV) (hv : CallC P G 28 [.ptr 0 0, int ((dep + 1 : Nat) : Int)] (rdr rest) (.ret (val v)) (rdr rest')) (ex : AEx) (s' : St) (h : RunL P G none 1 (loopAt P 28 0) { env := slots 50 [(0, AV.ptr 0 0), (1, int (↑dep : Int)), (4, AV.ptr 1 0), (36, int (↑N : Int)), (37, int (↑(i + 1) : Int))], H := [AObj.box [AV.sl 1 false (bys rest')], AObj.box [int 3, int 0, str { data := #[] }, AV.own 2 (g + 1) 0 (List.length vs + 1)], AObj.arr (g + 1) 4 false (encL vs ++ [[int (CV.k v), int (CV.n v), str (CV.s v), AV.sl 4 false (encL (CV.l v))]])] } ex s') : RunL P G none 1 (loopAt P 28 0) (lst1 dep rest N i g vs) ex s' := by
  exact RunL.next _ _ _ (lst1_ok_p1 dep rest rest' N i g vs v) ⟨(decide_eq_true (by omega)), Sub.of_wrap (by omega) (by omega) (by omega), (@hv ), (rfl), ((Go.Cdc.encL_length _).symm), (by omega), Sub.of_wrap (by omega) (by omega) (by omega), trivial⟩ h


theorem lst1_bad_p1 (dep : Nat) (rest : List UInt8) (N : Nat) (i : Nat) (g : Nat) (vs : List CV) : loopExit P G none 1 (loopAt P 28 0) (lst1 dep rest N i g vs) [Orc.br true, Orc.at_ 5, Orc.val (some 43) (int (↑(dep + 1) : Int)), Orc.call [0] (AOut.pan badErr) [AObj.gone]] (others 50 []) 1 =
    some (AEx.pan (AV.ifc 28 (int 10)), { env := slots 50 [], H := [AObj.gone] }, [decide ((↑i : Int) < (↑N : Int)) = true, Am.Sub (int (IntKind.wrap IntKind.i64 ((↑dep : Int) + 1))) (int (↑(dep + 1) : Int)), CallC P G 28 [AV.ptr 0 0, int (↑(dep + 1) : Int)] [AObj.box [AV.sl 1 false (bys rest)]] (AOut.pan (AV.ifc 28 (int 10))) [AObj.gone]]) := by kernel_rfl

theorem lst1_bad (dep : Nat) (rest : List UInt8) (N i g : Nat) (vs : List CV) (hd : dep < 16) (hN : i < N) (hN2 : N ≤ 1000000000) (hv : CallC P G 28 [.ptr 0 0, int ((dep + 1 : Nat) : Int)] (rdr rest) (.pan badErr) [.gone]) (h : True) : RunL P G none 1 (loopAt P 28 0) (lst1 dep rest N i g vs) (AEx.pan badErr) { env := slots 50 [], H := [AObj.gone] } := by
  have _ := h
  exact RunL.exit _ _ _ (lst1_bad_p1 dep rest N i g vs) ⟨(decide_eq_true (by omega)), Sub.of_wrap (by omega) (by omega) (by omega), (@hv ), trivial⟩


/-- What a list's elements come to, read by p. -/
def lstF (p : List UInt8 → Bool × CV × List UInt8) : Nat → List UInt8 → Bool × List CV × List UInt8
  | 0, r => (true, [], r)
  | n + 1, r => if (p r).1 = true then ((lstF p n (p r).2.2).1, (p r).2.1 :: (lstF p n (p r).2.2).2.1, (lstF p n (p r).2.2).2.2) else (false, [], [])
/-- What is asked of the elements' reader. -/
structure Reads (dep : Nat) (p : List UInt8 → Bool × CV × List UInt8) : Prop where
  call : ∀ l : List UInt8, l.length ≤ 1000000000 → CallC P G 28 [.ptr 0 0, int (dep : Int)] (rdr l) (if (p l).1 = true then .ret (val (p l).2.1) else .pan badErr) [if (p l).1 = true then .box [byt (p l).2.2] else .gone]
  le : ∀ l, (p l).2.2.length ≤ l.length
theorem lstF_len {p : List UInt8 → Bool × CV × List UInt8} : ∀ (n : Nat) (r : List UInt8), (lstF p n r).1 = true → (lstF p n r).2.1.length = n
  | 0, _, _ => rfl
  | n + 1, r, h => by
    simp only [lstF] at h ⊢
    split at h
    · rename_i hp
      rw [if_pos hp]
      simp [lstF_len n _ h]
    · cases h
theorem lstF_le {p : List UInt8 → Bool × CV × List UInt8} (hp : ∀ l, (p l).2.2.length ≤ l.length) : ∀ (n : Nat) (r : List UInt8), (lstF p n r).2.2.length ≤ r.length
  | 0, _ => Nat.le_refl _
  | n + 1, r => by
    simp only [lstF]
    split
    · exact Nat.le_trans (lstF_le hp n _) (hp r)
    · simp

theorem lst1_loop {dep : Nat} {p : List UInt8 → Bool × CV × List UInt8} (hp : Reads (dep + 1) p) (hd : dep < 16) (N : Nat) (hN : N ≤ 1000000000) : ∀ (n i g : Nat) (vs : List CV) (rest : List UInt8), N - i = n → i ≤ N → vs.length = i → rest.length ≤ 1000000000 →
    RunL P G none 1 (loopAt P 28 0) (lst1 dep rest N i g vs) (if (lstF p n rest).1 = true then .exit 1 else .pan badErr) { env := slots 50 [(4, if (lstF p n rest).1 = true then .ptr 1 0 else .dead)], H := if (lstF p n rest).1 = true then
      [.box [byt (lstF p n rest).2.2], .box [int 3, int 0, str { data := #[] }, .own 2 (g + n) 0 (vs ++ (lstF p n rest).2.1).length], .arr (g + n) 4 false (encL (vs ++ (lstF p n rest).2.1))] else [.gone] }
  | 0, i, g, vs, rest, hn, hi, hvs, hr => by
    simp only [lstF, if_true, List.append_nil, Nat.add_zero]
    exact lst1_end dep rest N i g vs (by omega) trivial
  | n + 1, i, g, vs, rest, hn, hi, hvs, hr => by
    have hc := hp.call rest hr
    cases hok : (p rest).1 with
    | false =>
      rw [hok] at hc
      simp only [lstF, hok, Bool.false_eq_true, if_false] at hc ⊢
      exact lst1_bad dep rest N i g vs hd (by omega) hN hc trivial
    | true =>
      rw [hok] at hc
      simp only [lstF, hok, if_true] at hc ⊢
      refine lst1_ok dep rest (p rest).2.2 N i g vs hd (by omega) hN (by omega) (p rest).2.1 hc _ _ ?_
      have ih := lst1_loop hp hd N hN n (i + 1) (g + 1) (vs ++ [(p rest).2.1]) (p rest).2.2 (by omega) (by omega) (by simp [hvs]) (Nat.le_trans (hp.le rest) hr)
      unfold lst1 at ih
      rw [← encL_append, ← encL_one, List.append_assoc, List.singleton_append, Nat.add_assoc, Nat.add_comm 1 n] at ih
      rw [show (vs ++ [(p rest).2.1]).length = vs.length + 1 from by simp] at ih
      exact ih

theorem lst0_loop {dep : Nat} {p : List UInt8 → Bool × CV × List UInt8} (hp : Reads (dep + 1) p) (hd : dep < 16) (n : Nat) (hN : n + 1 ≤ 1000000000) (rest : List UInt8) (hr : rest.length ≤ 1000000000) :
    RunL P G none 1 (loopAt P 28 0) (lst0 dep rest (n + 1)) (if (lstF p (n + 1) rest).1 = true then .exit 1 else .pan badErr) { env := slots 50 [(4, if (lstF p (n + 1) rest).1 = true then .ptr 1 0 else .dead)], H := if (lstF p (n + 1) rest).1 = true then
      [.box [byt (lstF p (n + 1) rest).2.2], .box [int 3, int 0, str { data := #[] }, .own 2 n 0 (lstF p (n + 1) rest).2.1.length], .arr n 4 false (encL (lstF p (n + 1) rest).2.1)] else [.gone] } := by
  have hc := hp.call rest hr
  cases hok : (p rest).1 with
  | false =>
    rw [hok] at hc
    simp only [lstF, hok, Bool.false_eq_true, if_false] at hc ⊢
    exact lst0_bad dep rest (n + 1) hd (by omega) hN hc trivial
  | true =>
    rw [hok] at hc
    simp only [lstF, hok, if_true] at hc ⊢
    refine lst0_ok dep rest (p rest).2.2 (n + 1) hd (by omega) hN (p rest).2.1 hc _ _ ?_
    have ih := lst1_loop hp hd (n + 1) hN n 1 0 [(p rest).2.1] (p rest).2.2 (by omega) (by omega) rfl (Nat.le_trans (hp.le rest) hr)
    unfold lst1 at ih
    rw [← encL_one, Nat.zero_add] at ih
    exact ih

end Go.Cdc
