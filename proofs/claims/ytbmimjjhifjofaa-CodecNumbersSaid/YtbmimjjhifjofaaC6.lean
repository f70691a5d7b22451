/- CODEC, 6: numerals that are written. -/
import Derived.KernelRfl
import Derived.Test.YtbmimjjhifjofaaC1
namespace Go.Cdc
set_option linter.unusedSimpArgs false
set_option linter.unusedVariables false
open Go Go.Am Go.Proofs

theorem wrap_u64_int (n : Int) : IntKind.wrap .u64 n = n % 18446744073709551616 := by
  show (let m := n % (2 ^ 64 : Int); if (IntKind.u64.signed && m ≥ (2 ^ (64 - 1) : Int)) = true then m - (2 ^ 64 : Int) else m) = _
  simp [IntKind.signed]
/-- The unsigned form. -/
def uns (n : Int) : Nat := if 0 ≤ n then 2 * n.toNat else 2 * (-(n + 1)).toNat + 1

theorem uns_w_p1 (n : Int) : runF P G 35 [int n] [] [] =
    some (AOut.ret (AV.lit (Value.int IntKind.u64 (IntKind.wrap IntKind.u64 (↑(BitVec.toNat (BitVec.ofInt (IntKind.bits IntKind.u64) (IntKind.wrap IntKind.u64 (IntKind.wrap IntKind.u64 n * 2 ^ min (Int.toNat 1) (IntKind.bits IntKind.u64))) ^^^ BitVec.ofInt (IntKind.bits IntKind.u64) (IntKind.wrap IntKind.u64 (Int.fdiv n (2 ^ min (Int.toNat 63) (IntKind.bits IntKind.i64)))))) : Int)))), [], [(0 : Int) ≤ (1 : Int), (0 : Int) ≤ (63 : Int)]) := by kernel_rfl

theorem uns_w (n : Int) (v : Int) (h : (IntKind.wrap IntKind.u64 (↑(BitVec.toNat (BitVec.ofInt (IntKind.bits IntKind.u64) (IntKind.wrap IntKind.u64 (IntKind.wrap IntKind.u64 n * 2 ^ min (Int.toNat 1) (IntKind.bits IntKind.u64))) ^^^ BitVec.ofInt (IntKind.bits IntKind.u64) (IntKind.wrap IntKind.u64 (Int.fdiv n (2 ^ min (Int.toNat 63) (IntKind.bits IntKind.i64)))))) : Int) : Int) = (v)) : CallC P G 35 [int n] [] (AOut.ret (AV.lit (Value.int IntKind.u64 v))) [] := by
  have e1 := h
  exact CallC.out (callC_of_run _ (uns_w_p1 n) ⟨(by omega), (by omega), trivial⟩) (Sub.int_eq e1)


theorem runs_w_p1 (n : Int) : runF P G 39 [int n] [] [Orc.br true] =
    some (AOut.ret (AV.lit (Value.int IntKind.u64 (IntKind.wrap IntKind.u64 (2 * IntKind.wrap IntKind.u64 n)))), [], [decide (n ≥ (0 : Int)) = true]) := by kernel_rfl

theorem runs_w_p2 (n : Int) : runF P G 39 [int n] [] [Orc.br false, Orc.val (some 9) (int (n + 1)), Orc.val (some 10) (int (0 - (n + 1)))] =
    some (AOut.ret (AV.lit (Value.int IntKind.u64 (IntKind.wrap IntKind.u64 (IntKind.wrap IntKind.u64 (2 * IntKind.wrap IntKind.u64 (0 - (n + 1))) + 1)))), [], [decide (n ≥ (0 : Int)) = false, Am.Sub (int (IntKind.wrap IntKind.i64 (n + 1))) (int (n + 1)), Am.Sub (int (IntKind.wrap IntKind.i64 (0 - (n + 1)))) (int (0 - (n + 1)))]) := by kernel_rfl

theorem runs_w (n : Int) (hn : -9223372036854775808 ≤ n ∧ n < 9223372036854775808) (v : Int) (h : (((n ≥ (0 : Int)) → (IntKind.wrap IntKind.u64 (2 * IntKind.wrap IntKind.u64 n) : Int) = (v)) ∧ ((¬n ≥ (0 : Int)) → (IntKind.wrap IntKind.u64 (IntKind.wrap IntKind.u64 (2 * IntKind.wrap IntKind.u64 (0 - (n + 1))) + 1) : Int) = (v)))) : CallC P G 39 [int n] [] (AOut.ret (AV.lit (Value.int IntKind.u64 v))) [] := by
  by_cases c1 : (n ≥ (0 : Int))
  · have h := h.1 c1
    have e1 := h
    exact CallC.out (callC_of_run _ (runs_w_p1 n) ⟨(decide_eq_true c1), trivial⟩) (Sub.int_eq e1)
  · have h := h.2 c1
    have e1 := h
    exact CallC.out (callC_of_run _ (runs_w_p2 n) ⟨(decide_eq_false c1), Sub.of_wrap (by omega) (by omega) rfl, Sub.of_wrap (by omega) (by omega) rfl, trivial⟩) (Sub.int_eq e1)


theorem uns_lt {n : Int} (hn : -9223372036854775808 ≤ n ∧ n < 9223372036854775808) : uns n < 18446744073709551616 := by
  unfold uns; split <;> omega
theorem uns_eq {n : Int} (hn : -9223372036854775808 ≤ n ∧ n < 9223372036854775808) : IntKind.wrap IntKind.u64 (↑(BitVec.toNat (BitVec.ofInt (IntKind.bits IntKind.u64) (IntKind.wrap IntKind.u64 (IntKind.wrap IntKind.u64 n * 2 ^ min (Int.toNat 1) (IntKind.bits IntKind.u64))) ^^^ BitVec.ofInt (IntKind.bits IntKind.u64) (IntKind.wrap IntKind.u64 (Int.fdiv n (2 ^ min (Int.toNat 63) (IntKind.bits IntKind.i64)))))) : Int) = (uns n : Int) := by
  have e1 : min (Int.toNat 1) (IntKind.bits IntKind.u64) = 1 := by decide
  have e2 : min (Int.toNat 63) (IntKind.bits IntKind.i64) = 63 := by decide
  have e3 : (2 : Int) ^ 63 = 9223372036854775808 := by decide
  rw [e1, e2, e3]
  unfold uns
  by_cases h : 0 ≤ n
  · rw [if_pos h]
    have f1 : Int.fdiv n 9223372036854775808 = ((0 : Nat) : Int) := by rw [Int.fdiv_eq_ediv_of_nonneg _ (by decide)]; omega
    have f2 : IntKind.wrap IntKind.u64 n = ((n.toNat : Nat) : Int) := by rw [wrap_u64_int]; omega
    have f3 : IntKind.wrap IntKind.u64 (((n.toNat : Nat) : Int) * 2 ^ 1) = ((2 * n.toNat : Nat) : Int) := by rw [wrap_u64_int]; omega
    have f4 : IntKind.wrap IntKind.u64 ((0 : Nat) : Int) = ((0 : Nat) : Int) := by decide
    rw [f1, f2, f3, f4, BitVec.toNat_xor, ofInt_nat, ofInt_nat]
    have f5 : (2 * n.toNat) % 2 ^ IntKind.bits IntKind.u64 ^^^ 0 % 2 ^ IntKind.bits IntKind.u64 = 2 * n.toNat := by
      show (2 * n.toNat) % 2 ^ 64 ^^^ 0 % 2 ^ 64 = _
      rw [Nat.zero_mod, Nat.xor_zero, Nat.mod_eq_of_lt (by omega)]
    rw [f5, wrap64 (by omega)]
  · rw [if_neg h]
    have f1 : Int.fdiv n 9223372036854775808 = -1 := by rw [Int.fdiv_eq_ediv_of_nonneg _ (by decide)]; omega
    have f4 : IntKind.wrap IntKind.u64 (-1) = ((18446744073709551615 : Nat) : Int) := by decide
    have f3 : IntKind.wrap IntKind.u64 (IntKind.wrap IntKind.u64 n * 2 ^ 1) = ((18446744073709551614 - 2 * (-(n + 1)).toNat : Nat) : Int) := by rw [wrap_u64_int, wrap_u64_int]; omega
    rw [f1, f3, f4]
    have f6 : BitVec.ofInt 64 ((18446744073709551615 : Nat) : Int) = BitVec.allOnes 64 := by decide
    show IntKind.wrap IntKind.u64 ((BitVec.ofInt 64 ((18446744073709551614 - 2 * (-(n + 1)).toNat : Nat) : Int) ^^^ BitVec.ofInt 64 ((18446744073709551615 : Nat) : Int)).toNat : Int) = _
    rw [f6, BitVec.xor_allOnes, BitVec.toNat_not, ofInt_nat, Nat.mod_eq_of_lt (by omega)]
    have h7 : (2 : Nat) ^ 64 = 18446744073709551616 := by decide
    rw [h7, wrap64 (by omega)]
    omega
theorem uns_c (n : Int) (hn : -9223372036854775808 ≤ n ∧ n < 9223372036854775808) : CallC P G 35 [int n] [] (.ret (u64 (uns n))) [] := uns_w n _ (uns_eq hn)
theorem runs_c (n : Int) (hn : -9223372036854775808 ≤ n ∧ n < 9223372036854775808) : CallC P G 39 [int n] [] (.ret (u64 (uns n))) [] := by
  refine runs_w n hn _ ⟨fun h => ?_, fun h => ?_⟩
  · unfold uns; rw [if_pos h, wrap_u64_int, wrap_u64_int]; omega
  · unfold uns
    rw [if_neg h]
    have e1 : IntKind.wrap IntKind.i64 (n + 1) = n + 1 := Am.wrap_ok (by omega) (by omega)
    have e2 : IntKind.wrap IntKind.i64 (0 - (n + 1)) = 0 - (n + 1) := Am.wrap_ok (by omega) (by omega)
    simp only [e1, e2, wrap_u64_int]
    omega

/-! Digits -/
def preD : Nat → Nat → List UInt8
  | 0, _ => []
  | f + 1, u => if u < 128 then [] else UInt8.ofNat (u % 128 + 128) :: preD f (u / 128)
def lastD : Nat → Nat → Nat
  | 0, u => u
  | f + 1, u => if u < 128 then u else lastD f (u / 128)
/-- A number's numeral. -/
def num (u : Nat) : List UInt8 := preD 9 u ++ [UInt8.ofNat (lastD 9 u)]
theorem lastD_lt : ∀ (f u : Nat), u < 128 * 128 ^ f → lastD f u < 128
  | 0, u, h => by simpa [lastD] using h
  | f + 1, u, h => by
    simp only [lastD]
    split
    · assumption
    · exact lastD_lt f (u / 128) (by rw [Nat.pow_succ] at h; omega)
theorem preD_len : ∀ (f u : Nat), (preD f u).length ≤ f
  | 0, _ => Nat.le_refl _
  | f + 1, u => by
    simp only [preD]
    split
    · simp
    · have := preD_len f (u / 128); simp; omega
theorem num_len (u : Nat) : (num u).length ≤ 10 ∧ 1 ≤ (num u).length := by
  have := preD_len 9 u
  simp only [num, List.length_append, List.length_cons, List.length_nil]; omega

def nmSt (xs : List (List AV)) (g u : Nat) : St := { env := slots 20 [(0, .own 0 g 0 xs.length), (1, u64 u)], H := [.arr g 1 false xs] }

theorem nm_end_p1 (xs : List (List AV)) (g : Nat) (u : Nat) : loopExit P G none 1 (loopAt P 34 0) (nmSt xs g u) [Orc.br false] (others 20 [0, 1]) 1 =
    some (AEx.exit 0, { env := slots 20 [(0, AV.own 0 g 0 (List.length xs)), (1, AV.lit (Value.int IntKind.u64 (↑u : Int)))], H := [AObj.arr g 1 false xs] }, [decide ((↑u : Int) ≥ (128 : Int)) = false]) := by kernel_rfl

theorem nm_end (xs : List (List AV)) (g u : Nat) (hu : u < 128) (h : True) : RunL P G none 1 (loopAt P 34 0) (nmSt xs g u) (AEx.exit 0) { env := slots 20 [(0, AV.own 0 g 0 (List.length xs)), (1, u64 u)], H := [AObj.arr g 1 false xs] } := by
  have _ := h
  exact RunL.exit _ _ _ (nm_end_p1 xs g u) ⟨(decide_eq_false (by omega)), trivial⟩


theorem nm_step_p1 (xs : List (List AV)) (g : Nat) (u : Nat) : loopStep P G none 1 (loopAt P 34 0) (nmSt xs g u) [Orc.br true] (others 20 [0, 1]) 1 =
    some ({ env := slots 20 [(0, AV.own 0 (g + 1) 0 (List.length xs + 1)), (1, AV.lit (Value.int IntKind.u64 (Int.fdiv (↑u : Int) (2 ^ min (Int.toNat 7) (IntKind.bits IntKind.u64)))))], H := [AObj.arr (g + 1) 1 false (xs ++ [[AV.lit (Value.int IntKind.u8 (IntKind.wrap IntKind.u8 (↑(BitVec.toNat (BitVec.ofInt (IntKind.bits IntKind.u8) (IntKind.wrap IntKind.u8 (↑u : Int)) ||| BitVec.ofInt (IntKind.bits IntKind.u8) 128)) : Int)))]])] }, [decide ((↑u : Int) ≥ (128 : Int)) = true, g = g, List.length xs = List.length xs, (List.length xs + 1) * 1 ≤ 140737488355328, (0 : Int) ≤ (7 : Int)]) := by kernel_rfl

theorem nm_step (xs : List (List AV)) (g u : Nat) (hu : ¬ u < 128) (hl : xs.length ≤ 1000000000) (hids : ∀ x ∈ xs, AV.idsInL [] x = true) (ex : AEx) (s' : St) (h : RunL P G none 1 (loopAt P 34 0) { env := slots 20 [(0, AV.own 0 (g + 1) 0 (List.length xs + 1)), (1, AV.lit (Value.int IntKind.u64 (Int.fdiv (↑u : Int) (2 ^ min (Int.toNat 7) (IntKind.bits IntKind.u64)))))], H := [AObj.arr (g + 1) 1 false (xs ++ [[AV.lit (Value.int IntKind.u8 (IntKind.wrap IntKind.u8 (↑(BitVec.toNat (BitVec.ofInt (IntKind.bits IntKind.u8) (IntKind.wrap IntKind.u8 (↑u : Int)) ||| BitVec.ofInt (IntKind.bits IntKind.u8) 128)) : Int)))]])] } ex s') : RunL P G none 1 (loopAt P 34 0) (nmSt xs g u) ex s' := by
  exact RunL.next _ _ _ (nm_step_p1 xs g u) ⟨(decide_eq_true (by omega)), (rfl), (rfl), (by omega), (by omega), trivial⟩ h


theorem nm_w_p1 (xs : List (List AV)) (ys : List (List AV)) (g : Nat) (g' : Nat) (u : Nat) (v : Nat) : runF P G 34 [AV.own 0 g 0 (List.length xs), u64 u] [AObj.arr g 1 false xs] [Orc.loop [2, 3, 4, 5, 6, 7, 8, 9, 10, 11, 12, 13, 14, 15, 16, 17, 18, 19] 1 (AEx.exit 0) [AV.own 0 g' 0 (List.length ys), AV.lit (Value.int IntKind.u64 (↑v : Int)), AV.dead, AV.dead, AV.dead, AV.dead, AV.dead, AV.dead, AV.dead, AV.dead, AV.dead, AV.dead, AV.dead, AV.dead, AV.dead, AV.dead, AV.dead, AV.dead, AV.dead, AV.dead] [AObj.arr g' 1 false ys]] =
    some (AOut.ret (AV.own 0 (g' + 1) 0 (List.length ys + 1)), [AObj.arr (g' + 1) 1 false (ys ++ [[AV.lit (Value.int IntKind.u8 (IntKind.wrap IntKind.u8 (↑v : Int)))]])], [RunL P G none 1 (loopAt P 34 0) { env := slots 20 [(0, AV.own 0 g 0 (List.length xs)), (1, AV.lit (Value.int IntKind.u64 (↑u : Int)))], H := [AObj.arr g 1 false xs] } (AEx.exit 0) { env := slots 20 [(0, AV.own 0 g' 0 (List.length ys)), (1, AV.lit (Value.int IntKind.u64 (↑v : Int)))], H := [AObj.arr g' 1 false ys] }, g' = g', List.length ys = List.length ys, (List.length ys + 1) * 1 ≤ 140737488355328]) := by kernel_rfl

theorem nm_w (xs ys : List (List AV)) (g g' u v : Nat) (hl : ys.length ≤ 1000000000) (hL : RunL P G none 1 (loopAt P 34 0) (nmSt xs g u) (.exit 0) { env := slots 20 [(0, .own 0 g' 0 ys.length), (1, u64 v)], H := [.arr g' 1 false ys] }) (b : Int) (hb : IntKind.wrap .u8 (v : Int) = b) (h : [AObj.arr (g' + 1) 1 false (ys ++ [[AV.lit (Value.int IntKind.u8 (IntKind.wrap IntKind.u8 (↑v : Int)))]])] = [AObj.arr (g' + 1) 1 false (ys ++ [[AV.lit (Value.int IntKind.u8 b)]])]) : CallC P G 34 [AV.own 0 g 0 (List.length xs), u64 u] [AObj.arr g 1 false xs] (AOut.ret (AV.own 0 (g' + 1) 0 (List.length ys + 1))) [AObj.arr (g' + 1) 1 false (ys ++ [[AV.lit (Value.int IntKind.u8 b)]])] := by
  have eH := h
  exact CallC.heap (callC_of_run _ (nm_w_p1 xs ys g g' u v) ⟨(@hL ), (rfl), (rfl), (by omega), trivial⟩) eH


theorem digit_eq (u : Nat) : IntKind.wrap IntKind.u8 (↑(BitVec.toNat (BitVec.ofInt (IntKind.bits IntKind.u8) (IntKind.wrap IntKind.u8 (↑u : Int)) ||| BitVec.ofInt (IntKind.bits IntKind.u8) 128)) : Int) = ((UInt8.ofNat (u % 128 + 128)).toNat : Int) := by
  have e0 : (128 : Int) = ((128 : Nat) : Int) := rfl
  rw [wrap_u8 u, e0, BitVec.toNat_or, ofInt_nat, ofInt_nat]
  show IntKind.wrap IntKind.u8 (((u % 256 % 2 ^ 8) ||| (128 % 2 ^ 8) : Nat) : Int) = _
  have e1 : ∀ x : Nat, x < 256 → (x % 2 ^ 8) ||| (128 % 2 ^ 8) = x % 128 + 128 := fun x hx => by
    have a1 : x % 2 ^ 8 = x := Nat.mod_eq_of_lt hx
    have a2 : (128 % 2 ^ 8 : Nat) = 2 ^ 7 * 1 := rfl
    have a3 : 2 ^ 7 * 1 ||| x % 128 = 2 ^ 7 * 1 + x % 128 := (Nat.two_pow_add_eq_or_of_lt (show x % 128 < 2 ^ 7 from Nat.mod_lt _ (by decide)) 1).symm
    rw [a1, a2]
    rcases Nat.lt_or_ge x 128 with h | h
    · have a4 : x = x % 128 := (Nat.mod_eq_of_lt h).symm
      rw [a4, Nat.or_comm, a3, Nat.mod_mod]
      omega
    · have a4 : x = 2 ^ 7 * 1 ||| x % 128 := by rw [a3]; omega
      have a5 : x ||| 2 ^ 7 * 1 = 2 ^ 7 * 1 ||| x % 128 := by
        conv => lhs; rw [a4]
        rw [Nat.or_comm, ← Nat.or_assoc, Nat.or_self]
      rw [a5, a3]
      omega
  have := e1 (u % 256) (Nat.mod_lt _ (by decide))
  rw [this, show u % 256 % 128 = u % 128 by omega, wrap8 (by omega), UInt8.toNat_ofNat']
  congr 1
  exact (Nat.mod_eq_of_lt (by omega)).symm
theorem byte_last {v : Nat} (h : v < 128) : IntKind.wrap .u8 (v : Int) = ((UInt8.ofNat v).toNat : Int) := by
  rw [wrap8 (by omega), UInt8.toNat_ofNat']
  congr 1
  exact (Nat.mod_eq_of_lt (by omega)).symm
theorem shr7 (u : Nat) : Int.fdiv (↑u : Int) (2 ^ min (Int.toNat 7) (IntKind.bits IntKind.u64)) = ((u / 128 : Nat) : Int) := by
  show Int.fdiv (u : Int) (2 ^ 7) = _
  rw [show (2 : Int) ^ 7 = 128 from by decide, Int.fdiv_eq_ediv_of_nonneg _ (by decide)]
  omega
theorem nm_loop : ∀ (f u g : Nat) (xs : List (List AV)), u < 128 * 128 ^ f → xs.length + f ≤ 1000000000 → (∀ x ∈ xs, AV.idsInL [] x = true) →
    RunL P G none 1 (loopAt P 34 0) (nmSt xs g u) (.exit 0) { env := slots 20 [(0, .own 0 (g + (preD f u).length) 0 (xs ++ bys (preD f u)).length), (1, u64 (lastD f u))], H := [.arr (g + (preD f u).length) 1 false (xs ++ bys (preD f u))] }
  | 0, u, g, xs, hu, hl, hx => by
    have e : xs ++ bys (preD 0 u) = xs := by simp [preD, bys]
    rw [e]
    exact nm_end xs g u (by simpa using hu) trivial
  | f + 1, u, g, xs, hu, hl, hx => by
    by_cases h : u < 128
    · have e : xs ++ bys (preD (f + 1) u) = xs := by simp [preD, bys, h]
      rw [e]
      simp only [preD, lastD, h, if_true]
      exact nm_end xs g u h trivial
    · refine nm_step xs g u h (by omega) hx _ _ ?_
      have ih := nm_loop f (u / 128) (g + 1) (xs ++ [byt1 (UInt8.ofNat (u % 128 + 128))]) (by rw [Nat.pow_succ] at hu; omega) (by simp; omega) (by
        intro x hx'
        rcases List.mem_append.1 hx' with h' | h'
        · exact hx x h'
        · rw [List.mem_singleton.1 h']; rfl)
      simp only [preD, lastD, h, if_false]
      rw [digit_eq, shr7]
      have e2 : xs ++ bys (UInt8.ofNat (u % 128 + 128) :: preD f (u / 128)) = (xs ++ [byt1 (UInt8.ofNat (u % 128 + 128))]) ++ bys (preD f (u / 128)) := by simp [bys]
      have e3 : g + (UInt8.ofNat (u % 128 + 128) :: preD f (u / 128)).length = g + 1 + (preD f (u / 128)).length := by simp; omega
      rw [e2, e3]
      unfold nmSt at ih
      rw [show (xs ++ [byt1 (UInt8.ofNat (u % 128 + 128))]).length = xs.length + 1 by simp] at ih
      exact ih
theorem numeral_c (xs : List (List AV)) (g u : Nat) (hu : u < 18446744073709551616) (hl : xs.length ≤ 100000000) (hx : ∀ x ∈ xs, AV.idsInL [] x = true) :
    CallC P G 34 [.own 0 g 0 xs.length, u64 u] [.arr g 1 false xs] (.ret (.own 0 (g + (num u).length) 0 (xs.length + (num u).length))) [.arr (g + (num u).length) 1 false (xs ++ bys (num u))] := by
  have hu' : u < 128 * 128 ^ 9 := by
    have : (128 : Nat) * 128 ^ 9 = 1180591620717411303424 := by decide
    omega
  have hp := preD_len 9 u
  have := nm_w xs (xs ++ bys (preD 9 u)) g (g + (preD 9 u).length) u (lastD 9 u) (by simp [bys_length]; omega) (nm_loop 9 u g xs hu' (by omega) hx) _ (byte_last (lastD_lt 9 u hu')) (by rw [byte_last (lastD_lt 9 u hu')])
  have e1 : g + (num u).length = g + (preD 9 u).length + 1 := by simp [num]; omega
  have e2 : xs ++ bys (num u) = (xs ++ bys (preD 9 u)) ++ [byt1 (UInt8.ofNat (lastD 9 u))] := by simp [num, bys]
  have e3 : xs.length + (num u).length = (xs ++ bys (preD 9 u)).length + 1 := by simp [num, bys_length]; omega
  rw [e1, e2, e3]
  exact this

/-! The reference's numerals -/
theorem rnm_0_p1 (u : Nat) : runF P G 38 [u64 u] [] [Orc.br true] =
    some (AOut.ret (AV.sl 1 true [[AV.lit (Value.int IntKind.u8 (IntKind.wrap IntKind.u8 (↑u : Int)))]]), [], [decide ((↑u : Int) < (128 : Int)) = true]) := by kernel_rfl

theorem rnm_0 (u : Nat) (hu : u < 128) (b : Int) (hb : IntKind.wrap .u8 (u : Int) = b) (h : ([[AV.lit (Value.int IntKind.u8 (IntKind.wrap IntKind.u8 (↑u : Int)))]]) = ([[AV.lit (Value.int IntKind.u8 b)]])) : CallC P G 38 [u64 u] [] (AOut.ret (AV.sl 1 false [[AV.lit (Value.int IntKind.u8 b)]])) [] := by
  have e1 := h
  exact CallC.out (callC_of_run _ (rnm_0_p1 u) ⟨(decide_eq_true (by omega)), trivial⟩) (Sub.list_eq e1)


theorem tdiv_128 (u : Nat) : Int.tdiv (u : Int) 128 = ((u / 128 : Nat) : Int) := rfl
theorem tmod_128 (u : Nat) : Int.tmod (u : Int) 128 = ((u % 128 : Nat) : Int) := rfl
theorem rnm_1_p1 (u : Nat) (r : List UInt8) : runF P G 38 [u64 u] [] [Orc.br false, Orc.call [] (AOut.ret (byt r)) [], Orc.frz ([AV.lit (Value.int IntKind.u8 (IntKind.wrap IntKind.u8 (IntKind.wrap IntKind.u64 ((↑(u % 128) : Int) + 128))))] :: bys r)] =
    some (AOut.ret (AV.sl 1 false ([AV.lit (Value.int IntKind.u8 (IntKind.wrap IntKind.u8 (IntKind.wrap IntKind.u64 ((↑(u % 128) : Int) + 128))))] :: bys r)), [], [decide ((↑u : Int) < (128 : Int)) = false, (128 : Int) ≠ (0 : Int), (128 : Int) ≠ (0 : Int), CallC P G 38 [AV.lit (Value.int IntKind.u64 (IntKind.wrap IntKind.u64 (Int.tdiv (↑u : Int) 128)))] [] (AOut.ret (AV.sl 1 false (bys r))) [], bys r ≠ [], (1 + List.length (bys r)) * 1 ≤ 140737488355328, 0 = 0, List.take (1 + List.length (bys r)) ([AV.lit (Value.int IntKind.u8 (IntKind.wrap IntKind.u8 (IntKind.wrap IntKind.u64 (Int.tmod (↑u : Int) 128 + 128))))] :: List.append._f [] PUnit.unit (bys r)) = [AV.lit (Value.int IntKind.u8 (IntKind.wrap IntKind.u8 (IntKind.wrap IntKind.u64 ((↑(u % 128) : Int) + 128))))] :: bys r, List.length ([AV.lit (Value.int IntKind.u8 (IntKind.wrap IntKind.u8 (IntKind.wrap IntKind.u64 ((↑(u % 128) : Int) + 128))))] :: bys r) = 1 + List.length (bys r), ∀ (c : List AV), c ∈ [AV.lit (Value.int IntKind.u8 (IntKind.wrap IntKind.u8 (IntKind.wrap IntKind.u64 ((↑(u % 128) : Int) + 128))))] :: bys r → List.all c AV.pureB = true]) := by kernel_rfl

theorem rnm_1 (u : Nat) (hu : ¬ u < 128) (r : List UInt8) (hr : r.length ≤ 1000) (hr0 : ¬ bys r = []) (hv : CallC P G 38 [u64 (u / 128 % 18446744073709551616)] [] (.ret (byt r)) []) (b : Int) (h : ((List.take (1 + List.length (bys r)) ([AV.lit (Value.int IntKind.u8 (IntKind.wrap IntKind.u8 (IntKind.wrap IntKind.u64 ((↑(u % 128) : Int) + 128))))] :: bys r) = [AV.lit (Value.int IntKind.u8 (IntKind.wrap IntKind.u8 (IntKind.wrap IntKind.u64 ((↑(u % 128) : Int) + 128))))] :: bys r) ∧ ((List.length ([AV.lit (Value.int IntKind.u8 (IntKind.wrap IntKind.u8 (IntKind.wrap IntKind.u64 ((↑(u % 128) : Int) + 128))))] :: bys r) = 1 + List.length (bys r)) ∧ ((∀ (c : List AV), c ∈ [AV.lit (Value.int IntKind.u8 (IntKind.wrap IntKind.u8 (IntKind.wrap IntKind.u64 ((↑(u % 128) : Int) + 128))))] :: bys r → List.all c AV.pureB = true) ∧ ([AV.lit (Value.int IntKind.u8 (IntKind.wrap IntKind.u8 (IntKind.wrap IntKind.u64 ((↑(u % 128) : Int) + 128))))] :: bys r) = ([AV.lit (Value.int IntKind.u8 b)] :: bys r))))) : CallC P G 38 [u64 u] [] (AOut.ret (AV.sl 1 false ([AV.lit (Value.int IntKind.u8 b)] :: bys r))) [] := by
  obtain ⟨o2, h⟩ := h
  obtain ⟨o3, h⟩ := h
  obtain ⟨o4, h⟩ := h
  have e1 := h
  exact CallC.out (callC_of_run _ (rnm_1_p1 u r) ⟨(decide_eq_false (by omega)), (by omega), (by omega), (@hv ), hr0, (by rw [Go.Cdc.bys_length]; omega), (rfl), o2, o3, o4, trivial⟩) (Sub.list_eq e1)


/-- Digits, the reference's way. -/
def numN : Nat → Nat → List UInt8
  | 0, u => [UInt8.ofNat u]
  | f + 1, u => if u < 128 then [UInt8.ofNat u] else UInt8.ofNat (u % 128 + 128) :: numN f (u / 128)
theorem numN_eq : ∀ (f u : Nat), numN f u = preD f u ++ [UInt8.ofNat (lastD f u)]
  | 0, u => rfl
  | f + 1, u => by
    simp only [numN, preD, lastD]
    split
    · rfl
    · rw [numN_eq f (u / 128)]; rfl

theorem rdigit_eq (u : Nat) : IntKind.wrap IntKind.u8 (IntKind.wrap IntKind.u64 ((↑(u % 128) : Int) + 128)) = ((UInt8.ofNat (u % 128 + 128)).toNat : Int) := by
  have e1 : ((↑(u % 128) : Int) + 128) = ((u % 128 + 128 : Nat) : Int) := by omega
  rw [e1, wrap64 (by omega), wrap8 (by omega), UInt8.toNat_ofNat']
  congr 1
  exact (Nat.mod_eq_of_lt (by omega)).symm
theorem rnm_loop : ∀ (f u : Nat), f ≤ 9 → u < 18446744073709551616 → u < 128 * 128 ^ f → CallC P G 38 [u64 u] [] (.ret (byt (numN f u))) []
  | 0, u, hf, hu, h => rnm_0 u (by simpa using h) _ (byte_last (by simpa using h)) (by rw [byte_last (by simpa using h)])
  | f + 1, u, hf, hu, h => by
    simp only [numN]
    by_cases hc : u < 128
    · rw [if_pos hc]
      exact rnm_0 u hc _ (byte_last hc) (by rw [byte_last hc])
    · rw [if_neg hc]
      have ih := rnm_loop f (u / 128) (by omega) (by omega) (by rw [Nat.pow_succ] at h; omega)
      have hl : (numN f (u / 128)).length ≤ 10 ∧ 1 ≤ (numN f (u / 128)).length := by
        rw [numN_eq]
        have := preD_len f (u / 128)
        simp; omega
      refine rnm_1 u hc (numN f (u / 128)) (by omega) (fun e => ?_) (by rw [Nat.mod_eq_of_lt (by omega)]; exact ih) _ ⟨?_, ?_, ?_, ?_⟩
      · have := congrArg List.length e
        rw [bys_length] at this
        simp only [List.length_nil] at this
        omega
      · rw [List.take_of_length_le (by simp; omega)]
      · simp; omega
      · intro c hc'
        rcases List.mem_cons.1 hc' with rfl | h'
        · rfl
        · exact bys_pure _ c h'
      · rw [rdigit_eq]
theorem rnumeral_c (u : Nat) (hu : u < 18446744073709551616) : CallC P G 38 [u64 u] [] (.ret (byt (num u))) [] := by
  have := rnm_loop 9 u (by omega) hu (by
    have : (128 : Nat) * 128 ^ 9 = 1180591620717411303424 := by decide
    omega)
  rw [numN_eq] at this
  exact this

end Go.Cdc
