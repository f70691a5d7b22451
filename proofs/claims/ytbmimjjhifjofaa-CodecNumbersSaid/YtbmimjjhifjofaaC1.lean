/- CODEC, 1: the readers' bytes. -/
import Derived.KernelRfl
import Derived.Test.YtbmimjjhifjofaaC0
namespace Go.Cdc
set_option linter.unusedSimpArgs false
set_option linter.unusedVariables false
open Go Go.Am Go.Proofs

/-! Arithmetic -/
theorem wrap_u64 (n : Nat) : IntKind.wrap .u64 (n : Int) = ((n % 18446744073709551616 : Nat) : Int) := by
  show (let m := (n : Int) % (2 ^ 64 : Int); if (IntKind.u64.signed && m ≥ (2 ^ (64 - 1) : Int)) = true then m - (2 ^ 64 : Int) else m) = _
  simp [IntKind.signed]
theorem wrap_u8 (n : Nat) : IntKind.wrap .u8 (n : Int) = ((n % 256 : Nat) : Int) := by
  show (let m := (n : Int) % (2 ^ 8 : Int); if (IntKind.u8.signed && m ≥ (2 ^ (8 - 1) : Int)) = true then m - (2 ^ 8 : Int) else m) = _
  simp [IntKind.signed]
theorem ofInt_nat (w n : Nat) : (BitVec.ofInt w (n : Int)).toNat = n % 2 ^ w := by simp [BitVec.toNat_ofInt]
theorem wrap64 {n : Nat} (h : n < 18446744073709551616) : IntKind.wrap .u64 (n : Int) = (n : Int) := by rw [wrap_u64, Nat.mod_eq_of_lt h]
theorem wrap8 {n : Nat} (h : n < 256) : IntKind.wrap .u8 (n : Int) = (n : Int) := by rw [wrap_u8, Nat.mod_eq_of_lt h]
/-- What a digit adds, in the machine's words. -/
def num1 (u : Nat) (c : UInt8) (i : Nat) : Int := IntKind.wrap IntKind.u64 (↑(BitVec.toNat (BitVec.ofInt (IntKind.bits IntKind.u64) (↑u : Int) ||| BitVec.ofInt (IntKind.bits IntKind.u64) (IntKind.wrap IntKind.u64 (IntKind.wrap IntKind.u64 (IntKind.wrap IntKind.u8 (↑(BitVec.toNat (BitVec.ofInt (IntKind.bits IntKind.u8) (↑(UInt8.toNat c) : Int) &&& BitVec.ofInt (IntKind.bits IntKind.u8) 127)) : Int)) * 2 ^ min (Int.toNat (7 * (↑i : Int))) (IntKind.bits IntKind.u64))))) : Int)
theorem num1_fold (u : Nat) (c : UInt8) (i : Nat) : IntKind.wrap IntKind.u64 (↑(BitVec.toNat (BitVec.ofInt (IntKind.bits IntKind.u64) (↑u : Int) ||| BitVec.ofInt (IntKind.bits IntKind.u64) (IntKind.wrap IntKind.u64 (IntKind.wrap IntKind.u64 (IntKind.wrap IntKind.u8 (↑(BitVec.toNat (BitVec.ofInt (IntKind.bits IntKind.u8) (↑(UInt8.toNat c) : Int) &&& BitVec.ofInt (IntKind.bits IntKind.u8) 127)) : Int)) * 2 ^ min (Int.toNat (7 * (↑i : Int))) (IntKind.bits IntKind.u64))))) : Int) = num1 u c i := rfl
theorem digit_fits {u c i : Nat} (hu : u < 2 ^ (7 * i)) (hi : i ≤ 9) (hc : i = 9 → c ≤ 1) : u + c % 128 * 2 ^ (7 * i) < 2 ^ (7 * (i + 1)) ∧ u + c % 128 * 2 ^ (7 * i) < 18446744073709551616 := by
  have h1 : c % 128 < 128 := Nat.mod_lt _ (by decide)
  have h2 : 2 ^ (7 * (i + 1)) = 128 * 2 ^ (7 * i) := by rw [Nat.mul_add, Nat.pow_add]; omega
  have h3 : u + c % 128 * 2 ^ (7 * i) < 128 * 2 ^ (7 * i) := by
    have := Nat.mul_le_mul_right (2 ^ (7 * i)) (show c % 128 ≤ 127 by omega)
    omega
  refine ⟨by rw [h2]; exact h3, ?_⟩
  rcases Nat.lt_or_eq_of_le hi with h | rfl
  · have : 2 ^ (7 * (i + 1)) ≤ 2 ^ 63 := Nat.pow_le_pow_right (by decide) (by omega)
    rw [h2] at this
    have : (2 : Nat) ^ 63 < 18446744073709551616 := by decide
    omega
  · have := hc rfl
    have h5 : (2 : Nat) ^ (7 * 9) = 9223372036854775808 := by decide
    rw [h5] at hu ⊢
    have : c % 128 ≤ 1 := by omega
    omega
theorem num1_eq {u : Nat} {c : UInt8} {i : Nat} (hu : u < 2 ^ (7 * i)) (hi : i ≤ 9) (hc : i = 9 → c.toNat ≤ 1) : num1 u c i = ((u + c.toNat % 128 * 2 ^ (7 * i) : Nat) : Int) := by
  have hfit := (digit_fits hu hi hc).2
  have hc8 : c.toNat < 256 := c.toNat_lt
  have e1 : (BitVec.ofInt (IntKind.bits IntKind.u8) (↑c.toNat : Int) &&& BitVec.ofInt (IntKind.bits IntKind.u8) 127).toNat = c.toNat % 128 := by
    have : (127 : Int) = ((127 : Nat) : Int) := rfl
    rw [BitVec.toNat_and, this, ofInt_nat, ofInt_nat]
    show (c.toNat % 2 ^ 8) &&& (127 % 2 ^ 8) = _
    rw [Nat.mod_eq_of_lt (show c.toNat < 2 ^ 8 by omega), Nat.mod_eq_of_lt (show 127 < 2 ^ 8 by decide)]
    exact Nat.and_two_pow_sub_one_eq_mod c.toNat 7
  have e2 : (7 * (i : Int)).toNat = 7 * i := by omega
  have e3 : min (7 * i) (IntKind.bits IntKind.u64) = 7 * i := by show min (7 * i) 64 = _; omega
  unfold num1
  rw [e1, e2, e3, wrap8 (show c.toNat % 128 < 256 by omega), wrap64 (show c.toNat % 128 < 18446744073709551616 by omega)]
  have e4 : ((c.toNat % 128 : Nat) : Int) * 2 ^ (7 * i) = ((c.toNat % 128 * 2 ^ (7 * i) : Nat) : Int) := by push_cast; rfl
  rw [e4, wrap64 (show c.toNat % 128 * 2 ^ (7 * i) < 18446744073709551616 by omega), BitVec.toNat_or, ofInt_nat, ofInt_nat]
  have e5 : ∀ n, n < 18446744073709551616 → n % 2 ^ IntKind.bits IntKind.u64 = n := fun n hn => Nat.mod_eq_of_lt hn
  rw [e5 _ (by omega), e5 _ (by omega)]
  have e6 : u ||| c.toNat % 128 * 2 ^ (7 * i) = u + c.toNat % 128 * 2 ^ (7 * i) := by
    have := Nat.two_pow_add_eq_or_of_lt hu (c.toNat % 128)
    rw [Nat.or_comm, Nat.mul_comm, ← this]
    omega
  rw [e6, wrap64 hfit]

theorem want_w_p1 (o : AObj) (b : Bool) : runF P G 29 [AV.ptr 0 0, Am.bool b] [o] [Orc.br false] =
    some (AOut.ret (AV.tup []), [o], [(!b) = false]) := by kernel_rfl

theorem want_w_p2 (o : AObj) (b : Bool) : runF P G 29 [AV.ptr 0 0, Am.bool b] [o] [Orc.br true] =
    some (AOut.pan (AV.ifc 28 (int 10)), [o], [(!b) = true]) := by kernel_rfl

theorem want_w (o : AObj) (b : Bool) (out : AOut) (h : ((((b) = true) → AOut.ret (AV.tup []) = out) ∧ (((b) = false) → AOut.pan (AV.ifc 28 (int 10)) = out))) : CallC P G 29 [AV.ptr 0 0, Am.bool b] [o] out [o] := by
  rcases Bool.eq_false_or_eq_true ((b)) with c1 | c1
  · have h := h.1 c1
    have e1 := h
    exact e1 ▸ (callC_of_run _ (want_w_p1 o b) ⟨(congrArg Bool.not (c1)), trivial⟩)
  · have h := h.2 c1
    have e1 := h
    exact e1 ▸ (callC_of_run _ (want_w_p2 o b) ⟨(congrArg Bool.not (c1)), trivial⟩)


theorem want_c (o : AObj) (b : Bool) : CallC P G 29 [.ptr 0 0, bool b] [o] (if b = true then .ret (.tup []) else .pan badErr) [o] :=
  want_w o b _ ⟨fun h => by rw [if_pos h], fun h => by rw [if_neg (by simp [h])]; rfl⟩

theorem takeX_t_p1 (xs : List (List AV)) (n : Nat) : runF P G 40 [AV.ptr 0 0, int (↑n : Int)] [AObj.box [AV.sl 1 false xs]] [Orc.call [0] (AOut.ret (AV.tup [])) [AObj.box [AV.sl 1 false xs]], Orc.val (some 28) (AV.sl 1 false (List.drop n xs))] =
    some (AOut.ret (AV.sl 1 false (List.drop 0 (List.take (Int.toNat (↑n : Int)) xs))), [AObj.box [AV.sl 1 false (List.drop n xs)]], [CallC P G 29 [AV.ptr 0 0, Am.bool (decide ((↑n : Int) ≤ (↑(List.length xs) : Int)))] [AObj.box [AV.sl 1 false xs]] (AOut.ret (AV.tup [])) [AObj.box [AV.sl 1 false xs]], (0 : Int) ≤ (0 : Int) ∧ (0 : Int) ≤ (↑n : Int) ∧ (↑n : Int) ≤ (↑n : Int) ∧ (↑n : Int) ≤ (↑(List.length xs) : Int), Am.Sub (AV.sl 1 false (List.drop (Int.toNat (↑n : Int)) (List.take (Int.toNat (↑(List.length xs) : Int)) xs))) (AV.sl 1 false (List.drop n xs)), (0 : Int) ≤ (↑n : Int) ∧ (↑n : Int) ≤ (↑(List.length xs) : Int) ∧ (↑(List.length xs) : Int) ≤ (↑(List.length xs) : Int)]) := by kernel_rfl

theorem takeX_t (xs : List (List AV)) (n : Nat) (h : n ≤ xs.length) (hl : xs.length ≤ 1000000000) (h : True) : CallC P G 40 [AV.ptr 0 0, int (↑n : Int)] [AObj.box [AV.sl 1 false xs]] (AOut.ret (AV.sl 1 false (List.take n xs))) [AObj.box [AV.sl 1 false (List.drop n xs)]] := by
  have _ := h
  exact callC_of_run _ (takeX_t_p1 xs n) ⟨(by have h0 := (@Go.Cdc.want_c (AObj.box [AV.sl 1 false xs]) (decide ((↑n : Int) ≤ (↑(List.length xs) : Int)))); simp only [if_pos (show decide ((↑n : Int) ≤ (↑(List.length xs) : Int)) = true from decide_eq_true (by omega))] at h0; exact h0), (by omega), Sub.of_eq (by simp only [Int.toNat_natCast, List.take_length]), (by omega), trivial⟩


theorem takeX_f_p1 (xs : List (List AV)) (n : Nat) : runF P G 40 [AV.ptr 0 0, int (↑n : Int)] [AObj.box [AV.sl 1 false xs]] [Orc.call [0] (AOut.pan badErr) [AObj.box [AV.sl 1 false xs]]] =
    some (AOut.pan (AV.ifc 28 (int 10)), [AObj.box [AV.sl 1 false xs]], [CallC P G 29 [AV.ptr 0 0, Am.bool (decide ((↑n : Int) ≤ (↑(List.length xs) : Int)))] [AObj.box [AV.sl 1 false xs]] (AOut.pan (AV.ifc 28 (int 10))) [AObj.box [AV.sl 1 false xs]]]) := by kernel_rfl

theorem takeX_f (xs : List (List AV)) (n : Nat) (h : xs.length < n) (hl : xs.length ≤ 1000000000) (h : True) : CallC P G 40 [AV.ptr 0 0, int (↑n : Int)] [AObj.box [AV.sl 1 false xs]] (AOut.pan badErr) [AObj.box [AV.sl 1 false xs]] := by
  have _ := h
  exact callC_of_run _ (takeX_f_p1 xs n) ⟨(by have h0 := (@Go.Cdc.want_c (AObj.box [AV.sl 1 false xs]) (decide ((↑n : Int) ≤ (↑(List.length xs) : Int)))); simp only [if_neg (show ¬ (decide ((↑n : Int) ≤ (↑(List.length xs) : Int)) = true) from Bool.eq_false_iff.1 (decide_eq_false (by omega)))] at h0; exact h0), trivial⟩


theorem take_t (l : List UInt8) (n : Nat) (h : n ≤ l.length) (hl : l.length ≤ 1000000000) : CallC P G 40 [.ptr 0 0, int n] (rdr l) (.ret (byt (l.take n))) (rdr (l.drop n)) := by
  have := takeX_t (bys l) n (by rw [bys_length]; exact h) (by rw [bys_length]; exact hl) trivial
  rw [bys_take, bys_drop] at this
  exact this
theorem take_f (l : List UInt8) (n : Nat) (h : l.length < n) (hl : l.length ≤ 1000000000) : CallC P G 40 [.ptr 0 0, int n] (rdr l) (.pan badErr) (rdr l) :=
  takeX_f (bys l) n (by rw [bys_length]; exact h) (by rw [bys_length]; exact hl) trivial
theorem one_any (x : AV) (r : List UInt8) (hl : r.length ≤ 999999999) : CallC P G 40 [.ptr 0 0, int 1] [.box [.sl 1 false ([x] :: bys r)]] (.ret (.sl 1 false [[x]])) (rdr r) :=
  takeX_t ([x] :: bys r) 1 (by simp) (by simp [bys_length]; omega) trivial

def rdrC (c : UInt8) (r : List UInt8) : List AObj := [.box [.sl 1 false ([u8 c] :: bys r)]]
theorem one_nil : CallC P G 40 [.ptr 0 0, int 1] (rdr []) (.pan badErr) (rdr []) := take_f [] 1 (by simp) (by simp)
theorem one_cons (c : UInt8) (r : List UInt8) (hl : r.length ≤ 999999999) : CallC P G 40 [.ptr 0 0, int 1] (rdrC c r) (.ret (.sl 1 false [[u8 c]])) (rdr r) := take_t (c :: r) 1 (by simp) (by simp; omega)

/-- The program's reader within a numeral. -/
def numSt (l : List UInt8) (u i : Nat) : St := { env := slots 38 [(0, .ptr 0 0), (2, u64 u), (3, int i)], H := rdr l }

theorem num_nil_p1 (u : Nat) (i : Nat) : loopExit P G none 1 (loopAt P 42 0) (numSt [] u i) [Orc.call [0] (AOut.pan badErr) (rdr [])] (others 38 [2]) 1 =
    some (AEx.pan (AV.ifc 28 (int 10)), { env := slots 38 [(2, AV.lit (Value.int IntKind.u64 (↑u : Int)))], H := [AObj.box [AV.sl 1 false []]] }, [CallC P G 40 [AV.ptr 0 0, int 1] [AObj.box [AV.sl 1 false []]] (AOut.pan (AV.ifc 28 (int 10))) [AObj.box [AV.sl 1 false []]]]) := by kernel_rfl

theorem num_nil (u i : Nat) (ex : AEx) (h : AEx.pan (AV.ifc 28 (int 10)) = ex) : RunL P G none 1 (loopAt P 42 0) (numSt [] u i) ex { env := slots 38 [(2, u64 u)], H := rdr [] } := by
  have eX := h
  exact RunL.to (RunL.exit _ _ _ (num_nil_p1 u i) ⟨(@Go.Cdc.one_nil ), trivial⟩) eX (SubS.of_eq rfl)


def numSt1 (c : UInt8) (r : List UInt8) (u i : Nat) : St := { env := slots 38 [(0, .ptr 0 0), (2, u64 u), (3, int i)], H := rdrC c r }

theorem num_cons_p1 (c : UInt8) (r : List UInt8) (u : Nat) (i : Nat) : loopExit P G none 1 (loopAt P 42 0) (numSt1 c r u i) [Orc.call [0] (AOut.ret (AV.sl 1 false [[u8 c]])) (rdr r), Orc.elem [AV.lit (Value.int IntKind.u8 (↑(UInt8.toNat c) : Int))], Orc.br true, Orc.br true, Orc.br true, Orc.call [0] (AOut.ret (AV.tup [])) [AObj.box [AV.sl 1 false (bys r)]], Orc.val (some 32) (int (7 * (↑i : Int))), Orc.br true] (others 38 [2]) 1 =
    some (AEx.ret, { env := slots 38 [(2, AV.lit (Value.int IntKind.u64 (num1 u c i)))], H := [AObj.box [AV.sl 1 false (bys r)]] }, [CallC P G 40 [AV.ptr 0 0, int 1] [AObj.box [AV.sl 1 false ([AV.lit (Value.int IntKind.u8 (↑(UInt8.toNat c) : Int))] :: bys r)]] (AOut.ret (AV.sl 1 false [[AV.lit (Value.int IntKind.u8 (↑(UInt8.toNat c) : Int))]])) [AObj.box [AV.sl 1 false (bys r)]], (0 : Int) ≤ (0 : Int) ∧ [[u8 c]][Int.toNat 0]? = some [AV.lit (Value.int IntKind.u8 (↑(UInt8.toNat c) : Int))], ((↑i : Int) == 0) = true, true = true, decide ((↑i : Int) < (9 : Int)) = true, CallC P G 29 [AV.ptr 0 0, Am.bool true] [AObj.box [AV.sl 1 false (bys r)]] (AOut.ret (AV.tup [])) [AObj.box [AV.sl 1 false (bys r)]], Am.Sub (int (IntKind.wrap IntKind.i64 (7 * (↑i : Int)))) (int (7 * (↑i : Int))), (0 : Int) ≤ 7 * (↑i : Int), decide ((↑(UInt8.toNat c) : Int) < (128 : Int)) = true]) := by kernel_rfl

theorem num_cons_p2 (c : UInt8) (r : List UInt8) (u : Nat) (i : Nat) : loopStep P G none 1 (loopAt P 42 0) (numSt1 c r u i) [Orc.call [0] (AOut.ret (AV.sl 1 false [[u8 c]])) (rdr r), Orc.elem [AV.lit (Value.int IntKind.u8 (↑(UInt8.toNat c) : Int))], Orc.br true, Orc.br true, Orc.br true, Orc.call [0] (AOut.ret (AV.tup [])) [AObj.box [AV.sl 1 false (bys r)]], Orc.val (some 32) (int (7 * (↑i : Int))), Orc.br false, Orc.val (some 6) (int (↑(i + 1) : Int))] (others 38 [0, 2, 3]) 1 =
    some ({ env := slots 38 [(0, AV.ptr 0 0), (2, AV.lit (Value.int IntKind.u64 (num1 u c i))), (3, int (↑(i + 1) : Int))], H := [AObj.box [AV.sl 1 false (bys r)]] }, [CallC P G 40 [AV.ptr 0 0, int 1] [AObj.box [AV.sl 1 false ([AV.lit (Value.int IntKind.u8 (↑(UInt8.toNat c) : Int))] :: bys r)]] (AOut.ret (AV.sl 1 false [[AV.lit (Value.int IntKind.u8 (↑(UInt8.toNat c) : Int))]])) [AObj.box [AV.sl 1 false (bys r)]], (0 : Int) ≤ (0 : Int) ∧ [[u8 c]][Int.toNat 0]? = some [AV.lit (Value.int IntKind.u8 (↑(UInt8.toNat c) : Int))], ((↑i : Int) == 0) = true, true = true, decide ((↑i : Int) < (9 : Int)) = true, CallC P G 29 [AV.ptr 0 0, Am.bool true] [AObj.box [AV.sl 1 false (bys r)]] (AOut.ret (AV.tup [])) [AObj.box [AV.sl 1 false (bys r)]], Am.Sub (int (IntKind.wrap IntKind.i64 (7 * (↑i : Int)))) (int (7 * (↑i : Int))), (0 : Int) ≤ 7 * (↑i : Int), decide ((↑(UInt8.toNat c) : Int) < (128 : Int)) = false, Am.Sub (int (IntKind.wrap IntKind.i64 ((↑i : Int) + 1))) (int (↑(i + 1) : Int))]) := by kernel_rfl

theorem num_cons_p3 (c : UInt8) (r : List UInt8) (u : Nat) (i : Nat) : loopExit P G none 1 (loopAt P 42 0) (numSt1 c r u i) [Orc.call [0] (AOut.ret (AV.sl 1 false [[u8 c]])) (rdr r), Orc.elem [AV.lit (Value.int IntKind.u8 (↑(UInt8.toNat c) : Int))], Orc.br false, Orc.br false, Orc.call [0] (AOut.pan badErr) [AObj.box [AV.sl 1 false (bys r)]]] (others 38 [2]) 1 =
    some (AEx.pan (AV.ifc 28 (int 10)), { env := slots 38 [(2, AV.lit (Value.int IntKind.u64 (↑u : Int)))], H := [AObj.box [AV.sl 1 false (bys r)]] }, [CallC P G 40 [AV.ptr 0 0, int 1] [AObj.box [AV.sl 1 false ([AV.lit (Value.int IntKind.u8 (↑(UInt8.toNat c) : Int))] :: bys r)]] (AOut.ret (AV.sl 1 false [[AV.lit (Value.int IntKind.u8 (↑(UInt8.toNat c) : Int))]])) [AObj.box [AV.sl 1 false (bys r)]], (0 : Int) ≤ (0 : Int) ∧ [[u8 c]][Int.toNat 0]? = some [AV.lit (Value.int IntKind.u8 (↑(UInt8.toNat c) : Int))], ((↑i : Int) == 0) = false, ((↑(UInt8.toNat c) : Int) != 0) = false, CallC P G 29 [AV.ptr 0 0, Am.bool false] [AObj.box [AV.sl 1 false (bys r)]] (AOut.pan (AV.ifc 28 (int 10))) [AObj.box [AV.sl 1 false (bys r)]]]) := by kernel_rfl

theorem num_cons_p4 (c : UInt8) (r : List UInt8) (u : Nat) (i : Nat) : loopExit P G none 1 (loopAt P 42 0) (numSt1 c r u i) [Orc.call [0] (AOut.ret (AV.sl 1 false [[u8 c]])) (rdr r), Orc.elem [AV.lit (Value.int IntKind.u8 (↑(UInt8.toNat c) : Int))], Orc.br false, Orc.br true, Orc.br true, Orc.call [0] (AOut.ret (AV.tup [])) [AObj.box [AV.sl 1 false (bys r)]], Orc.val (some 32) (int (7 * (↑i : Int))), Orc.br true] (others 38 [2]) 1 =
    some (AEx.ret, { env := slots 38 [(2, AV.lit (Value.int IntKind.u64 (num1 u c i)))], H := [AObj.box [AV.sl 1 false (bys r)]] }, [CallC P G 40 [AV.ptr 0 0, int 1] [AObj.box [AV.sl 1 false ([AV.lit (Value.int IntKind.u8 (↑(UInt8.toNat c) : Int))] :: bys r)]] (AOut.ret (AV.sl 1 false [[AV.lit (Value.int IntKind.u8 (↑(UInt8.toNat c) : Int))]])) [AObj.box [AV.sl 1 false (bys r)]], (0 : Int) ≤ (0 : Int) ∧ [[u8 c]][Int.toNat 0]? = some [AV.lit (Value.int IntKind.u8 (↑(UInt8.toNat c) : Int))], ((↑i : Int) == 0) = false, ((↑(UInt8.toNat c) : Int) != 0) = true, decide ((↑i : Int) < (9 : Int)) = true, CallC P G 29 [AV.ptr 0 0, Am.bool true] [AObj.box [AV.sl 1 false (bys r)]] (AOut.ret (AV.tup [])) [AObj.box [AV.sl 1 false (bys r)]], Am.Sub (int (IntKind.wrap IntKind.i64 (7 * (↑i : Int)))) (int (7 * (↑i : Int))), (0 : Int) ≤ 7 * (↑i : Int), decide ((↑(UInt8.toNat c) : Int) < (128 : Int)) = true]) := by kernel_rfl

theorem num_cons_p5 (c : UInt8) (r : List UInt8) (u : Nat) (i : Nat) : loopStep P G none 1 (loopAt P 42 0) (numSt1 c r u i) [Orc.call [0] (AOut.ret (AV.sl 1 false [[u8 c]])) (rdr r), Orc.elem [AV.lit (Value.int IntKind.u8 (↑(UInt8.toNat c) : Int))], Orc.br false, Orc.br true, Orc.br true, Orc.call [0] (AOut.ret (AV.tup [])) [AObj.box [AV.sl 1 false (bys r)]], Orc.val (some 32) (int (7 * (↑i : Int))), Orc.br false, Orc.val (some 6) (int (↑(i + 1) : Int))] (others 38 [0, 2, 3]) 1 =
    some ({ env := slots 38 [(0, AV.ptr 0 0), (2, AV.lit (Value.int IntKind.u64 (num1 u c i))), (3, int (↑(i + 1) : Int))], H := [AObj.box [AV.sl 1 false (bys r)]] }, [CallC P G 40 [AV.ptr 0 0, int 1] [AObj.box [AV.sl 1 false ([AV.lit (Value.int IntKind.u8 (↑(UInt8.toNat c) : Int))] :: bys r)]] (AOut.ret (AV.sl 1 false [[AV.lit (Value.int IntKind.u8 (↑(UInt8.toNat c) : Int))]])) [AObj.box [AV.sl 1 false (bys r)]], (0 : Int) ≤ (0 : Int) ∧ [[u8 c]][Int.toNat 0]? = some [AV.lit (Value.int IntKind.u8 (↑(UInt8.toNat c) : Int))], ((↑i : Int) == 0) = false, ((↑(UInt8.toNat c) : Int) != 0) = true, decide ((↑i : Int) < (9 : Int)) = true, CallC P G 29 [AV.ptr 0 0, Am.bool true] [AObj.box [AV.sl 1 false (bys r)]] (AOut.ret (AV.tup [])) [AObj.box [AV.sl 1 false (bys r)]], Am.Sub (int (IntKind.wrap IntKind.i64 (7 * (↑i : Int)))) (int (7 * (↑i : Int))), (0 : Int) ≤ 7 * (↑i : Int), decide ((↑(UInt8.toNat c) : Int) < (128 : Int)) = false, Am.Sub (int (IntKind.wrap IntKind.i64 ((↑i : Int) + 1))) (int (↑(i + 1) : Int))]) := by kernel_rfl

theorem num_cons_p6 (c : UInt8) (r : List UInt8) (u : Nat) (i : Nat) : loopExit P G none 1 (loopAt P 42 0) (numSt1 c r u i) [Orc.call [0] (AOut.ret (AV.sl 1 false [[u8 c]])) (rdr r), Orc.elem [AV.lit (Value.int IntKind.u8 (↑(UInt8.toNat c) : Int))], Orc.br false, Orc.br true, Orc.br false, Orc.call [0] (AOut.ret (AV.tup [])) [AObj.box [AV.sl 1 false (bys r)]], Orc.val (some 32) (int (7 * (↑i : Int))), Orc.br true] (others 38 [2]) 1 =
    some (AEx.ret, { env := slots 38 [(2, AV.lit (Value.int IntKind.u64 (num1 u c i)))], H := [AObj.box [AV.sl 1 false (bys r)]] }, [CallC P G 40 [AV.ptr 0 0, int 1] [AObj.box [AV.sl 1 false ([AV.lit (Value.int IntKind.u8 (↑(UInt8.toNat c) : Int))] :: bys r)]] (AOut.ret (AV.sl 1 false [[AV.lit (Value.int IntKind.u8 (↑(UInt8.toNat c) : Int))]])) [AObj.box [AV.sl 1 false (bys r)]], (0 : Int) ≤ (0 : Int) ∧ [[u8 c]][Int.toNat 0]? = some [AV.lit (Value.int IntKind.u8 (↑(UInt8.toNat c) : Int))], ((↑i : Int) == 0) = false, ((↑(UInt8.toNat c) : Int) != 0) = true, decide ((↑i : Int) < (9 : Int)) = false, CallC P G 29 [AV.ptr 0 0, Am.bool (decide ((↑(UInt8.toNat c) : Int) ≤ (1 : Int)))] [AObj.box [AV.sl 1 false (bys r)]] (AOut.ret (AV.tup [])) [AObj.box [AV.sl 1 false (bys r)]], Am.Sub (int (IntKind.wrap IntKind.i64 (7 * (↑i : Int)))) (int (7 * (↑i : Int))), (0 : Int) ≤ 7 * (↑i : Int), decide ((↑(UInt8.toNat c) : Int) < (128 : Int)) = true]) := by kernel_rfl

theorem num_cons_p7 (c : UInt8) (r : List UInt8) (u : Nat) (i : Nat) : loopExit P G none 1 (loopAt P 42 0) (numSt1 c r u i) [Orc.call [0] (AOut.ret (AV.sl 1 false [[u8 c]])) (rdr r), Orc.elem [AV.lit (Value.int IntKind.u8 (↑(UInt8.toNat c) : Int))], Orc.br false, Orc.br true, Orc.br false, Orc.call [0] (AOut.pan badErr) [AObj.box [AV.sl 1 false (bys r)]]] (others 38 [2]) 1 =
    some (AEx.pan (AV.ifc 28 (int 10)), { env := slots 38 [(2, AV.lit (Value.int IntKind.u64 (↑u : Int)))], H := [AObj.box [AV.sl 1 false (bys r)]] }, [CallC P G 40 [AV.ptr 0 0, int 1] [AObj.box [AV.sl 1 false ([AV.lit (Value.int IntKind.u8 (↑(UInt8.toNat c) : Int))] :: bys r)]] (AOut.ret (AV.sl 1 false [[AV.lit (Value.int IntKind.u8 (↑(UInt8.toNat c) : Int))]])) [AObj.box [AV.sl 1 false (bys r)]], (0 : Int) ≤ (0 : Int) ∧ [[u8 c]][Int.toNat 0]? = some [AV.lit (Value.int IntKind.u8 (↑(UInt8.toNat c) : Int))], ((↑i : Int) == 0) = false, ((↑(UInt8.toNat c) : Int) != 0) = true, decide ((↑i : Int) < (9 : Int)) = false, CallC P G 29 [AV.ptr 0 0, Am.bool (decide ((↑(UInt8.toNat c) : Int) ≤ (1 : Int)))] [AObj.box [AV.sl 1 false (bys r)]] (AOut.pan (AV.ifc 28 (int 10))) [AObj.box [AV.sl 1 false (bys r)]]]) := by kernel_rfl

theorem num_cons (c : UInt8) (r : List UInt8) (hl : r.length ≤ 999999999) (u i : Nat) (hi : i ≤ 9) (ex : AEx) (v : Int) (o : AObj) (h : ((((↑i : Int) = (0 : Int)) → ((((↑(UInt8.toNat c) : Int) < (128 : Int)) → (AEx.ret = ex) ∧ ((num1 u c i : Int) = (v)) ∧ ([AObj.box [AV.sl 1 false (bys r)]] = [o])) ∧ ((¬(↑(UInt8.toNat c) : Int) < (128 : Int)) → RunL P G none 1 (loopAt P 42 0) { env := slots 38 [(0, AV.ptr 0 0), (2, AV.lit (Value.int IntKind.u64 (num1 u c i))), (3, int (↑(i + 1) : Int))], H := [AObj.box [AV.sl 1 false (bys r)]] } ex { env := slots 38 [(2, AV.lit (Value.int IntKind.u64 v))], H := [o] }))) ∧ ((¬(↑i : Int) = (0 : Int)) → ((((↑(UInt8.toNat c) : Int) = (0 : Int)) → (AEx.pan (AV.ifc 28 (int 10)) = ex) ∧ (((↑u : Int) : Int) = (v)) ∧ ([AObj.box [AV.sl 1 false (bys r)]] = [o])) ∧ ((¬(↑(UInt8.toNat c) : Int) = (0 : Int)) → ((((↑i : Int) < (9 : Int)) → ((((↑(UInt8.toNat c) : Int) < (128 : Int)) → (AEx.ret = ex) ∧ ((num1 u c i : Int) = (v)) ∧ ([AObj.box [AV.sl 1 false (bys r)]] = [o])) ∧ ((¬(↑(UInt8.toNat c) : Int) < (128 : Int)) → RunL P G none 1 (loopAt P 42 0) { env := slots 38 [(0, AV.ptr 0 0), (2, AV.lit (Value.int IntKind.u64 (num1 u c i))), (3, int (↑(i + 1) : Int))], H := [AObj.box [AV.sl 1 false (bys r)]] } ex { env := slots 38 [(2, AV.lit (Value.int IntKind.u64 v))], H := [o] }))) ∧ ((¬(↑i : Int) < (9 : Int)) → ((((↑(UInt8.toNat c) : Int) ≤ (1 : Int)) → (AEx.ret = ex) ∧ ((num1 u c i : Int) = (v)) ∧ ([AObj.box [AV.sl 1 false (bys r)]] = [o])) ∧ ((¬(↑(UInt8.toNat c) : Int) ≤ (1 : Int)) → (AEx.pan (AV.ifc 28 (int 10)) = ex) ∧ (((↑u : Int) : Int) = (v)) ∧ ([AObj.box [AV.sl 1 false (bys r)]] = [o])))))))))) : RunL P G none 1 (loopAt P 42 0) (numSt1 c r u i) ex { env := slots 38 [(2, AV.lit (Value.int IntKind.u64 v))], H := [o] } := by
  by_cases c1 : ((↑i : Int) = (0 : Int))
  · have h := h.1 c1
    by_cases c3 : ((↑(UInt8.toNat c) : Int) < (128 : Int))
    · have h := h.1 c3
      obtain ⟨eX, e1, eH⟩ := h
      exact RunL.to (RunL.exit _ _ _ (num_cons_p1 c r u i) ⟨(@Go.Cdc.one_cons (c) (r) (by omega)), ⟨by decide, rfl⟩, (beq_iff_eq.2 c1), (rfl), (decide_eq_true (by omega)), (by have h0 := (@Go.Cdc.want_c (AObj.box [AV.sl 1 false (bys r)]) (true)); simp only [if_pos (show true = true from rfl)] at h0; exact h0), Sub.of_wrap (by omega) (by omega) rfl, (by omega), (decide_eq_true c3), trivial⟩) eX (SubS.slotsH ⟨rfl, (Sub.int_eq e1), trivial⟩ eH)
    · have h := h.2 c3
      exact RunL.next _ _ _ (num_cons_p2 c r u i) ⟨(@Go.Cdc.one_cons (c) (r) (by omega)), ⟨by decide, rfl⟩, (beq_iff_eq.2 c1), (rfl), (decide_eq_true (by omega)), (by have h0 := (@Go.Cdc.want_c (AObj.box [AV.sl 1 false (bys r)]) (true)); simp only [if_pos (show true = true from rfl)] at h0; exact h0), Sub.of_wrap (by omega) (by omega) rfl, (by omega), (decide_eq_false c3), Sub.of_wrap (by omega) (by omega) (by omega), trivial⟩ h
  · have h := h.2 c1
    by_cases c4 : ((↑(UInt8.toNat c) : Int) = (0 : Int))
    · have h := h.1 c4
      obtain ⟨eX, e1, eH⟩ := h
      exact RunL.to (RunL.exit _ _ _ (num_cons_p3 c r u i) ⟨(@Go.Cdc.one_cons (c) (r) (by omega)), ⟨by decide, rfl⟩, (beq_eq_false_iff_ne.2 c1), (congrArg Bool.not (beq_iff_eq.2 c4)), (by have h0 := (@Go.Cdc.want_c (AObj.box [AV.sl 1 false (bys r)]) (false)); simp only [if_neg (show ¬ (false = true) from Bool.eq_false_iff.1 (rfl))] at h0; exact h0), trivial⟩) eX (SubS.slotsH ⟨rfl, (Sub.int_eq e1), trivial⟩ eH)
    · have h := h.2 c4
      by_cases c5 : ((↑i : Int) < (9 : Int))
      · have h := h.1 c5
        by_cases c6 : ((↑(UInt8.toNat c) : Int) < (128 : Int))
        · have h := h.1 c6
          obtain ⟨eX, e1, eH⟩ := h
          exact RunL.to (RunL.exit _ _ _ (num_cons_p4 c r u i) ⟨(@Go.Cdc.one_cons (c) (r) (by omega)), ⟨by decide, rfl⟩, (beq_eq_false_iff_ne.2 c1), (congrArg Bool.not (beq_eq_false_iff_ne.2 c4)), (decide_eq_true c5), (by have h0 := (@Go.Cdc.want_c (AObj.box [AV.sl 1 false (bys r)]) (true)); simp only [if_pos (show true = true from rfl)] at h0; exact h0), Sub.of_wrap (by omega) (by omega) rfl, (by omega), (decide_eq_true c6), trivial⟩) eX (SubS.slotsH ⟨rfl, (Sub.int_eq e1), trivial⟩ eH)
        · have h := h.2 c6
          exact RunL.next _ _ _ (num_cons_p5 c r u i) ⟨(@Go.Cdc.one_cons (c) (r) (by omega)), ⟨by decide, rfl⟩, (beq_eq_false_iff_ne.2 c1), (congrArg Bool.not (beq_eq_false_iff_ne.2 c4)), (decide_eq_true c5), (by have h0 := (@Go.Cdc.want_c (AObj.box [AV.sl 1 false (bys r)]) (true)); simp only [if_pos (show true = true from rfl)] at h0; exact h0), Sub.of_wrap (by omega) (by omega) rfl, (by omega), (decide_eq_false c6), Sub.of_wrap (by omega) (by omega) (by omega), trivial⟩ h
      · have h := h.2 c5
        by_cases c7 : ((↑(UInt8.toNat c) : Int) ≤ (1 : Int))
        · have h := h.1 c7
          obtain ⟨eX, e1, eH⟩ := h
          exact RunL.to (RunL.exit _ _ _ (num_cons_p6 c r u i) ⟨(@Go.Cdc.one_cons (c) (r) (by omega)), ⟨by decide, rfl⟩, (beq_eq_false_iff_ne.2 c1), (congrArg Bool.not (beq_eq_false_iff_ne.2 c4)), (decide_eq_false c5), (by have h0 := (@Go.Cdc.want_c (AObj.box [AV.sl 1 false (bys r)]) (decide ((↑(UInt8.toNat c) : Int) ≤ (1 : Int)))); simp only [if_pos (show decide ((↑(UInt8.toNat c) : Int) ≤ (1 : Int)) = true from decide_eq_true c7)] at h0; exact h0), Sub.of_wrap (by omega) (by omega) rfl, (by omega), (decide_eq_true (by omega)), trivial⟩) eX (SubS.slotsH ⟨rfl, (Sub.int_eq e1), trivial⟩ eH)
        · have h := h.2 c7
          obtain ⟨eX, e1, eH⟩ := h
          exact RunL.to (RunL.exit _ _ _ (num_cons_p7 c r u i) ⟨(@Go.Cdc.one_cons (c) (r) (by omega)), ⟨by decide, rfl⟩, (beq_eq_false_iff_ne.2 c1), (congrArg Bool.not (beq_eq_false_iff_ne.2 c4)), (decide_eq_false c5), (by have h0 := (@Go.Cdc.want_c (AObj.box [AV.sl 1 false (bys r)]) (decide ((↑(UInt8.toNat c) : Int) ≤ (1 : Int)))); simp only [if_neg (show ¬ (decide ((↑(UInt8.toNat c) : Int) ≤ (1 : Int)) = true) from Bool.eq_false_iff.1 (decide_eq_false c7))] at h0; exact h0), trivial⟩) eX (SubS.slotsH ⟨rfl, (Sub.int_eq e1), trivial⟩ eH)


/-- A numeral: whether it is one, its number, what remains. -/
def numF : List UInt8 → Nat → Nat → Bool × Nat × List UInt8
  | [], u, _ => (false, u, [])
  | c :: r, u, i => if (i ≠ 0 ∧ c.toNat = 0) ∨ (9 ≤ i ∧ 1 < c.toNat) then (false, u, r)
    else if c.toNat < 128 then (true, u + c.toNat % 128 * 2 ^ (7 * i), r) else numF r (u + c.toNat % 128 * 2 ^ (7 * i)) (i + 1)

theorem num_loop : ∀ (l : List UInt8) (u i : Nat), l.length ≤ 1000000000 → u < 2 ^ (7 * i) → i ≤ 9 →
    RunL P G none 1 (loopAt P 42 0) (numSt l u i) (if (numF l u i).1 = true then .ret else .pan badErr) { env := slots 38 [(2, u64 (numF l u i).2.1)], H := rdr (numF l u i).2.2 }
  | [], u, i, _, _, _ => num_nil u i _ rfl
  | c :: r, u, i, hl, hu, hi => by
    have hl' : r.length ≤ 999999999 := by simp at hl; omega
    have hc8 : c.toNat < 256 := c.toNat_lt
    have go : (i = 9 → c.toNat ≤ 1) → ¬ (c.toNat < 128) → ¬ (i ≠ 0 ∧ c.toNat = 0) → RunL P G none 1 (loopAt P 42 0) { env := slots 38 [(0, AV.ptr 0 0), (2, AV.lit (Value.int IntKind.u64 (num1 u c i))), (3, int (↑(i + 1) : Int))], H := [AObj.box [AV.sl 1 false (bys r)]] }
        (if (numF (c :: r) u i).1 = true then .ret else .pan badErr) { env := slots 38 [(2, u64 (numF (c :: r) u i).2.1)], H := rdr (numF (c :: r) u i).2.2 } := fun h9 hc h0 => by
      have hi' : i ≤ 8 := by
        rcases Nat.lt_or_eq_of_le hi with h | h
        · omega
        · have := h9 h; omega
      rw [num1_eq hu hi h9]
      have e : numF (c :: r) u i = numF r (u + c.toNat % 128 * 2 ^ (7 * i)) (i + 1) := by
        simp only [numF]
        rw [if_neg (by omega), if_neg hc]
      rw [e]
      exact num_loop r _ (i + 1) (by omega) (digit_fits hu hi h9).1 (by omega)
    have fin : (i = 9 → c.toNat ≤ 1) → c.toNat < 128 → ¬ (i ≠ 0 ∧ c.toNat = 0) → numF (c :: r) u i = (true, u + c.toNat % 128 * 2 ^ (7 * i), r) := fun h9 hc h0 => by
      simp only [numF]
      rw [if_neg (by omega), if_pos hc]
    have bad : (i ≠ 0 ∧ c.toNat = 0) ∨ (9 ≤ i ∧ 1 < c.toNat) → numF (c :: r) u i = (false, u, r) := fun h => by
      simp only [numF]
      rw [if_pos h]
    refine num_cons c r hl' u i hi _ _ _ ⟨fun h0 => ⟨fun hc => ?_, fun hc => go (by omega) (by omega) (by omega)⟩, fun h0 => ⟨fun hz => ?_, fun hz => ⟨fun h9 => ⟨fun hc => ?_, fun hc => go (by omega) (by omega) (by omega)⟩, fun h9 => ⟨fun h1 => ?_, fun h1 => ?_⟩⟩⟩⟩
    · rw [fin (by omega) (by omega) (by omega)]; exact ⟨rfl, num1_eq hu hi (by omega), rfl⟩
    · rw [bad (.inl (by omega))]; exact ⟨rfl, rfl, rfl⟩
    · rw [fin (by omega) (by omega) (by omega)]; exact ⟨rfl, num1_eq hu hi (by omega), rfl⟩
    · rw [fin (by omega) (by omega) (by omega)]; exact ⟨rfl, num1_eq hu hi (by omega), rfl⟩
    · rw [bad (.inr (by omega))]; exact ⟨rfl, rfl, rfl⟩

def numOk (l : List UInt8) : Bool := (numF l 0 0).1
def numU (l : List UInt8) : Nat := (numF l 0 0).2.1
def numR (l : List UInt8) : List UInt8 := (numF l 0 0).2.2
theorem num_l (l : List UInt8) (hl : l.length ≤ 1000000000) : RunL P G none 1 (loopAt P 42 0) (numSt l 0 0) (if numOk l = true then .ret else .pan badErr) { env := slots 38 [(2, u64 (numU l))], H := rdr (numR l) } :=
  num_loop l 0 0 hl (by simp) (by omega)

theorem number_w_p1 (l : List UInt8) : runF P G 42 [AV.ptr 0 0] (rdr l) [Orc.loop [1, 4, 5, 6, 7, 8, 9, 10, 11, 12, 13, 14, 15, 16, 17, 18, 19, 20, 21, 22, 23, 24, 25, 26, 27, 28, 29, 30, 31, 32, 33, 34, 35, 36, 37] 1 AEx.ret [AV.dead, AV.dead, AV.lit (Value.int IntKind.u64 (↑(numU l) : Int)), AV.dead, AV.dead, AV.dead, AV.dead, AV.dead, AV.dead, AV.dead, AV.dead, AV.dead, AV.dead, AV.dead, AV.dead, AV.dead, AV.dead, AV.dead, AV.dead, AV.dead, AV.dead, AV.dead, AV.dead, AV.dead, AV.dead, AV.dead, AV.dead, AV.dead, AV.dead, AV.dead, AV.dead, AV.dead, AV.dead, AV.dead, AV.dead, AV.dead, AV.dead, AV.dead] [AObj.box [AV.sl 1 false (bys (numR l))]]] =
    some (AOut.ret (AV.lit (Value.int IntKind.u64 (↑(numU l) : Int))), [AObj.box [AV.sl 1 false (bys (numR l))]], [RunL P G none 1 (loopAt P 42 0) { env := slots 38 [(0, AV.ptr 0 0), (2, AV.lit (Value.int IntKind.u64 0)), (3, int 0)], H := [AObj.box [AV.sl 1 false (bys l)]] } AEx.ret { env := slots 38 [(2, AV.lit (Value.int IntKind.u64 (↑(numU l) : Int)))], H := [AObj.box [AV.sl 1 false (bys (numR l))]] }]) := by kernel_rfl

theorem number_w_p2 (l : List UInt8) : runF P G 42 [AV.ptr 0 0] (rdr l) [Orc.loop [1, 4, 5, 6, 7, 8, 9, 10, 11, 12, 13, 14, 15, 16, 17, 18, 19, 20, 21, 22, 23, 24, 25, 26, 27, 28, 29, 30, 31, 32, 33, 34, 35, 36, 37] 1 (AEx.pan badErr) [AV.dead, AV.dead, AV.lit (Value.int IntKind.u64 (↑(numU l) : Int)), AV.dead, AV.dead, AV.dead, AV.dead, AV.dead, AV.dead, AV.dead, AV.dead, AV.dead, AV.dead, AV.dead, AV.dead, AV.dead, AV.dead, AV.dead, AV.dead, AV.dead, AV.dead, AV.dead, AV.dead, AV.dead, AV.dead, AV.dead, AV.dead, AV.dead, AV.dead, AV.dead, AV.dead, AV.dead, AV.dead, AV.dead, AV.dead, AV.dead, AV.dead, AV.dead] [AObj.box [AV.sl 1 false (bys (numR l))]]] =
    some (AOut.pan (AV.ifc 28 (int 10)), [AObj.box [AV.sl 1 false (bys (numR l))]], [RunL P G none 1 (loopAt P 42 0) { env := slots 38 [(0, AV.ptr 0 0), (2, AV.lit (Value.int IntKind.u64 0)), (3, int 0)], H := [AObj.box [AV.sl 1 false (bys l)]] } (AEx.pan (AV.ifc 28 (int 10))) { env := slots 38 [(2, AV.lit (Value.int IntKind.u64 (↑(numU l) : Int)))], H := [AObj.box [AV.sl 1 false (bys (numR l))]] }]) := by kernel_rfl

theorem number_w (l : List UInt8) (hl : l.length ≤ 1000000000) (out : AOut) (h : (((numOk l = true) → AOut.ret (AV.lit (Value.int IntKind.u64 (↑(numU l) : Int))) = out) ∧ ((¬numOk l = true) → AOut.pan (AV.ifc 28 (int 10)) = out))) : CallC P G 42 [AV.ptr 0 0] (rdr l) out (rdr (numR l)) := by
  by_cases c1 : (numOk l = true)
  · have h := h.1 c1
    have e1 := h
    exact e1 ▸ (callC_of_run _ (number_w_p1 l) ⟨(by have h0 := (@Go.Cdc.num_l (l) (by omega)); simp only [if_pos c1] at h0; exact h0), trivial⟩)
  · have h := h.2 c1
    have e1 := h
    exact e1 ▸ (callC_of_run _ (number_w_p2 l) ⟨(by have h0 := (@Go.Cdc.num_l (l) (by omega)); simp only [if_neg c1] at h0; exact h0), trivial⟩)


theorem number_c (l : List UInt8) (hl : l.length ≤ 1000000000) : CallC P G 42 [.ptr 0 0] (rdr l) (if numOk l = true then .ret (u64 (numU l)) else .pan badErr) (rdr (numR l)) :=
  number_w l hl _ ⟨fun h => by rw [if_pos h], fun h => by rw [if_neg h]; rfl⟩

end Go.Cdc
