import Derived.Test.YtflocgjejaoeiaaG12
import Derived.Shelf.SlIter.Nil
import Derived.Shelf.SortM.Plain
import Derived.Shelf.SortM.SortNone
import Derived.Ground.GgzProg
import Derived.Ground.SlgmProg
import Derived.KernelRfl
/- BINDS, 18: slices.Sorted, maps.Keys and slices.Sort, by the library's contracts. -/
namespace Go.Proofs
set_option maxRecDepth 100000
open Go.Shelf Go.RowKit Go.Lib Go.Sort
def Try.keysS_ren : Go.Shelf.Ren := ⟨fun | 7 => 41 | 10 => 62 | n => n, fun | 23 => 60 | 26 => 9 | 3 => 4 | 28 => 63 | 0 => 0 | 27 => 62 | 33 => 78 | 4 => 4 | n => n, fun | n => n⟩
theorem Try.keysS : Go.Proofs.SlLaysZ.n7 Try.prog Try.keysS_ren where
  mixed := by kernel_rfl
  f7 := ⟨"maps.Keys[map[string]bool,string,bool]", by decide, Try.func41.trans (congrArg some (by kernel_rfl))⟩
  f10 := ⟨"maps.Keys[map[string]bool,string,bool]$1", by decide, Try.func62.trans (congrArg some (by kernel_rfl))⟩
  t0 := Try.underlying0
  a0 := Try.isAgg0
  z0 := Try.sizeOf0
  v0 := Try.zeroValue0
  t4 := Try.underlying4
  a4 := Try.isAgg4
  z4 := Try.sizeOf4
  v4 := Try.zeroValue4
  t23 := Try.underlying60
  a23 := Try.isAgg60
  z23 := Try.sizeOf60
  v23 := Try.zeroValue60
  t26 := Try.underlying9
  a26 := Try.isAgg9
  z26 := Try.sizeOf9
  v26 := Try.zeroValue9
  t27 := Try.underlying62
  a27 := Try.isAgg62
  z27 := Try.sizeOf62
  v27 := Try.zeroValue62
  t28 := Try.underlying63
  a28 := Try.isAgg63
  z28 := Try.sizeOf63
  v28 := Try.zeroValue63
  t33 := Try.underlying78
  a33 := Try.isAgg78
  z33 := Try.sizeOf78
  v33 := Try.zeroValue78
def Try.sortedS_ren : Go.Shelf.Ren := ⟨fun | 6 => 40 | 8 => 60 | 9 => 61 | 11 => 73 | 13 => 75 | 12 => 74 | 23 => 90 | 24 => 91 | 14 => 81 | 15 => 82 | 16 => 83 | 17 => 84 | 18 => 85 | 19 => 86 | 20 => 87 | 21 => 88 | 22 => 89 | 25 => 93 | 26 => 94 | 27 => 95 | 28 => 96 | 29 => 97 | 30 => 78 | 31 => 99 | n => n, fun | 26 => 9 | 28 => 63 | 24 => 37 | 0 => 0 | 3 => 3 | 37 => 68 | 48 => 100 | 50 => 102 | 4 => 4 | 40 => 93 | 39 => 92 | 45 => 50 | 5 => 5 | 9 => 9 | 51 => 103 | 55 => 107 | 57 => 109 | 58 => 110 | 33 => 78 | n => n, fun | n => n⟩
theorem Try.sortedS : Go.Proofs.SlLaysZ.n6 Try.prog Try.sortedS_ren where
  mixed := by kernel_rfl
  f6 := ⟨"slices.Sorted[string]", by decide, Try.func40.trans (congrArg some (by kernel_rfl))⟩
  f8 := ⟨"slices.Collect[string]", by decide, Try.func60.trans (congrArg some (by kernel_rfl))⟩
  f11 := ⟨"slices.AppendSeq[[]string,string]", by decide, Try.func73.trans (congrArg some (by kernel_rfl))⟩
  t0 := Try.underlying0
  a0 := Try.isAgg0
  z0 := Try.sizeOf0
  v0 := Try.zeroValue0
  t24 := Try.underlying37
  a24 := Try.isAgg37
  z24 := Try.sizeOf37
  v24 := Try.zeroValue37
  t26 := Try.underlying9
  a26 := Try.isAgg9
  z26 := Try.sizeOf9
  v26 := Try.zeroValue9
  t28 := Try.underlying63
  a28 := Try.isAgg63
  z28 := Try.sizeOf63
  v28 := Try.zeroValue63
  i26 := by kernel_rfl
def Try.sortS_ren : Go.Shelf.Ren := ⟨fun | 6 => 61 | 8 => 75 | 9 => 74 | 19 => 90 | 20 => 91 | 21 => 81 | 22 => 82 | 23 => 83 | 24 => 84 | 25 => 85 | 26 => 86 | 27 => 87 | 28 => 88 | 29 => 89 | 36 => 93 | 31 => 94 | 32 => 95 | 37 => 96 | 38 => 97 | 39 => 78 | 41 => 99 | n => n, fun | 27 => 37 | 29 => 9 | 3 => 3 | 32 => 68 | 26 => 37 | 0 => 0 | 44 => 100 | 46 => 102 | 4 => 4 | 36 => 93 | 35 => 92 | 41 => 50 | 5 => 5 | 9 => 9 | 53 => 103 | 57 => 107 | 63 => 109 | 64 => 110 | n => n, fun | n => n⟩
theorem Try.sortS : Go.Proofs.SlLaysM.n6 Try.prog Try.sortS_ren where
  mixed := by kernel_rfl
  f6 := ⟨"slices.Sort[[]string,string]", by decide, Try.func61.trans (congrArg some (by kernel_rfl))⟩
  f8 := Try.func75.trans (congrArg some (by kernel_rfl))
  f9 := ⟨"slices.pdqsortOrdered[string]", by decide, Try.func74.trans (congrArg some (by kernel_rfl))⟩
  f19 := Try.func90.trans (congrArg some (by kernel_rfl))
  f20 := Try.func91.trans (congrArg some (by kernel_rfl))
  f21 := ⟨"slices.insertionSortOrdered[string]", by decide, Try.func81.trans (congrArg some (by kernel_rfl))⟩
  f22 := ⟨"slices.heapSortOrdered[string]", by decide, Try.func82.trans (congrArg some (by kernel_rfl))⟩
  f23 := ⟨"slices.breakPatternsOrdered[string]", by decide, Try.func83.trans (congrArg some (by kernel_rfl))⟩
  f24 := ⟨"slices.choosePivotOrdered[string]", by decide, Try.func84.trans (congrArg some (by kernel_rfl))⟩
  f25 := ⟨"slices.reverseRangeOrdered[string]", by decide, Try.func85.trans (congrArg some (by kernel_rfl))⟩
  f26 := ⟨"slices.partialInsertionSortOrdered[string]", by decide, Try.func86.trans (congrArg some (by kernel_rfl))⟩
  f27 := ⟨"cmp.Less[string]", by decide, Try.func87.trans (congrArg some (by kernel_rfl))⟩
  f28 := ⟨"slices.partitionEqualOrdered[string]", by decide, Try.func88.trans (congrArg some (by kernel_rfl))⟩
  f29 := ⟨"slices.partitionOrdered[string]", by decide, Try.func89.trans (congrArg some (by kernel_rfl))⟩
  f31 := Try.func94.trans (congrArg some (by kernel_rfl))
  f32 := Try.func95.trans (congrArg some (by kernel_rfl))
  f36 := ⟨"slices.siftDownOrdered[string]", by decide, Try.func93.trans (congrArg some (by kernel_rfl))⟩
  f37 := ⟨"slices.medianAdjacentOrdered[string]", by decide, Try.func96.trans (congrArg some (by kernel_rfl))⟩
  f38 := ⟨"slices.medianOrdered[string]", by decide, Try.func97.trans (congrArg some (by kernel_rfl))⟩
  f39 := ⟨"cmp.isNaN[string]", by decide, Try.func78.trans (congrArg some (by kernel_rfl))⟩
  f41 := ⟨"slices.order2Ordered[string]", by decide, Try.func99.trans (congrArg some (by kernel_rfl))⟩
  t0 := Try.underlying0
  a0 := Try.isAgg0
  z0 := Try.sizeOf0
  v0 := Try.zeroValue0
  t3 := Try.underlying3
  a3 := Try.isAgg3
  z3 := Try.sizeOf3
  v3 := Try.zeroValue3
  t4 := Try.underlying4
  a4 := Try.isAgg4
  z4 := Try.sizeOf4
  v4 := Try.zeroValue4
  t5 := Try.underlying5
  a5 := Try.isAgg5
  z5 := Try.sizeOf5
  v5 := Try.zeroValue5
  t9 := Try.underlying9
  a9 := Try.isAgg9
  z9 := Try.sizeOf9
  v9 := Try.zeroValue9
  t26 := Try.underlying37
  a26 := Try.isAgg37
  z26 := Try.sizeOf37
  v26 := Try.zeroValue37
  t27 := Try.underlying37
  a27 := Try.isAgg37
  z27 := Try.sizeOf37
  v27 := Try.zeroValue37
  t29 := Try.underlying9
  a29 := Try.isAgg9
  z29 := Try.sizeOf9
  v29 := Try.zeroValue9
  t32 := Try.underlying68
  a32 := Try.isAgg68
  z32 := Try.sizeOf68
  v32 := Try.zeroValue68
  t35 := Try.underlying92
  a35 := Try.isAgg92
  z35 := Try.sizeOf92
  v35 := Try.zeroValue92
  t36 := Try.underlying93
  a36 := Try.isAgg93
  z36 := Try.sizeOf93
  v36 := Try.zeroValue93
  t41 := Try.underlying50
  a41 := Try.isAgg50
  z41 := Try.sizeOf50
  v41 := Try.zeroValue50
  t44 := Try.underlying100
  a44 := Try.isAgg100
  z44 := Try.sizeOf100
  v44 := Try.zeroValue100
  t46 := Try.underlying102
  a46 := Try.isAgg102
  z46 := Try.sizeOf102
  v46 := Try.zeroValue102
  t53 := Try.underlying103
  a53 := Try.isAgg103
  z53 := Try.sizeOf103
  v53 := Try.zeroValue103
  t57 := Try.underlying107
  a57 := Try.isAgg107
  z57 := Try.sizeOf107
  v57 := Try.zeroValue107
  t63 := Try.underlying109
  a63 := Try.isAgg109
  z63 := Try.sizeOf109
  v63 := Try.zeroValue109
  t64 := Try.underlying110
  a64 := Try.isAgg110
  z64 := Try.sizeOf110
  v64 := Try.zeroValue110
end Go.Proofs

/- BINDS, 5: the reference's Check. -/
namespace Go.Bd
set_option maxRecDepth 100000
set_option linter.unusedSimpArgs false
set_option linter.unusedVariables false
open Go Go.Am Go.Proofs Go.Seat

def rcSt (v : List BE) (i : Nat) : St := { env := slots 50 [(0, bes v), (3, int i)], H := [] }
def rcO : St := { env := slots 50 [], H := [] }
def rcI (v : List BE) (i k : Nat) : St := { env := slots 50 [(0, bes v), (3, int i), (4, int k)], H := [] }
def rcX (v : List BE) (i : Nat) : St := { env := slots 50 [(0, bes v), (3, int i)], H := [] }
def rcR (r : Int) : St := { env := slots 50 [(2, int r)], H := [] }

theorem rci_n (v : List BE) (i k : Nat) (x y : BE) (hv : v.length ≤ 1000000000) (hi : i < v.length) (hk : (k : Int) < (i : Int)) (hx : v[k]? = some x) (hy : v[i]? = some y) (hq : (x.dv == y.dv && x.sq == y.sq) = false) (ex : AEx) (s : St) (h : RunL P G none 0 (loopAt P 16 1) (St.mk (slots 50 [(0, AV.sl 5 false (encs v)), (3, int (↑i : Int)), (4, int (↑(k + 1) : Int))]) [] []) ex s) : RunL P G none 0 (loopAt P 16 1) (rcI v i k) ex s := by
  exact loop_next [kt (show decide ((↑k : Int) < (↑i : Int)) = true from (decide_eq_true (by omega))), ko (Orc.elem (enc x)), ko (Orc.elem (enc y)), kp (show (0 : Int) ≤ (↑k : Int) ∧ (encs v)[Int.toNat (↑k : Int)]? = some (enc x) from (el_nat hx)), kp (show (0 : Int) ≤ (↑i : Int) ∧ (encs v)[Int.toNat (↑i : Int)]? = some (enc y) from (el_nat hy)), kf hq, kv 38 (show Am.Sub (int (IntKind.wrap IntKind.i64 ((↑k : Int) + 1))) (int (↑(k + 1) : Int)) from (Sub.of_wrap (by omega) (by omega) (by omega)))] (others 50 [0, 3, 4]) 0 h (by kernel_rfl)

theorem rci_b (v : List BE) (i k : Nat) (x y : BE) (hv : v.length ≤ 1000000000) (hk : (k : Int) < (i : Int)) (hx : v[k]? = some x) (hy : v[i]? = some y) (hq : (x.dv == y.dv && x.sq == y.sq) = true) (h : True) : RunL P G none 0 (loopAt P 16 1) (rcI v i k) AEx.ret (rcR 140) := by
  have _ := h
  exact loop_exit [kt (show decide ((↑k : Int) < (↑i : Int)) = true from (decide_eq_true (by omega))), ko (Orc.elem (enc x)), ko (Orc.elem (enc y)), kp (show (0 : Int) ≤ (↑k : Int) ∧ (encs v)[Int.toNat (↑k : Int)]? = some (enc x) from (el_nat hx)), kp (show (0 : Int) ≤ (↑i : Int) ∧ (encs v)[Int.toNat (↑i : Int)]? = some (enc y) from (el_nat hy)), kt hq] (others 50 [2]) 0 (by kernel_rfl)

theorem rci_e (v : List BE) (i k : Nat) (hk : ¬ (k : Int) < (i : Int)) (h : True) : RunL P G none 0 (loopAt P 16 1) (rcI v i k) (AEx.exit 2) (rcX v i) := by
  have _ := h
  exact loop_exit [kf (show decide ((↑k : Int) < (↑i : Int)) = false from (decide_eq_false (by omega)))] (others 50 [0, 3]) 0 (by kernel_rfl)

/-- Does none from k to i bear the Dot of x? -/
def dotN (v : List BE) (x : BE) : Nat → Nat → Bool
  | 0, _ => true
  | n + 1, k => match v[k]? with
    | some y => !decide (y.dot = x.dot) && dotN v x n (k + 1)
    | none => true
theorem dotN_iff (v : List BE) (x : BE) (i : Nat) (hi : i ≤ v.length) : ∀ n k, i - k = n → k ≤ i → (dotN v x n k = true ↔ ∀ c ∈ (v.take i).drop k, c.dot ≠ x.dot)
  | 0, k, hn, hk => by
    rw [List.drop_eq_nil_of_le (by rw [List.length_take]; omega)]; simp [dotN]
  | n + 1, k, hn, hk => by
    have h : k < (v.take i).length := by rw [List.length_take]; omega
    have h' : k < v.length := by omega
    rw [dotN, List.getElem?_eq_getElem h', List.drop_eq_getElem_cons h]
    simp only [Bool.and_eq_true, Bool.not_eq_true', decide_eq_false_iff_not, List.mem_cons, forall_eq_or_imp, dotN_iff v x i hi n (k + 1) (by omega) (by omega), List.getElem_take]
theorem dotN_any (v : List BE) (x : BE) (i : Nat) (hi : i ≤ v.length) : dotN v x i 0 = !((v.take i).any fun c => decide (c.dot = x.dot)) := by
  rw [Bool.eq_iff_iff, dotN_iff v x i hi i 0 (by omega) (by omega)]
  simp
theorem dot_beq (x y : BE) : (x.dv == y.dv && x.sq == y.sq) = decide (x.dot = y.dot) := by
  rw [Bool.eq_iff_iff]; simp [BE.dot]
theorem rci_loop (v : List BE) (i : Nat) (hv : v.length ≤ 1000000000) (hi : i < v.length) : ∀ n k, i - k = n → k ≤ i → (dotN v v[i] n k = true → RunL P G none 0 (loopAt P 16 1) (rcI v i k) (.exit 2) (rcX v i)) ∧ (dotN v v[i] n k = false → RunL P G none 0 (loopAt P 16 1) (rcI v i k) .ret (rcR 140)) := by
  intro n
  induction n with
  | zero => intro k hn hk; exact ⟨fun _ => rci_e v i k (by omega) trivial, fun h => absurd h (by simp [dotN])⟩
  | succ n ih =>
    intro k hn hk
    have hlt : k < v.length := by omega
    have hx : v[k]? = some v[k] := List.getElem?_eq_getElem hlt
    have hy : v[i]? = some v[i] := List.getElem?_eq_getElem hi
    obtain ⟨ih1, ih2⟩ := ih (k + 1) (by omega) (by omega)
    have e : dotN v v[i] (n + 1) k = (!decide (v[k].dot = v[i].dot) && dotN v v[i] n (k + 1)) := by rw [dotN, hx]
    rw [e]
    cases hd : decide (v[k].dot = v[i].dot) with
    | true => exact ⟨fun h => by simp at h, fun _ => rci_b v i k _ _ hv (by omega) hx hy (by rw [dot_beq, hd]) trivial⟩
    | false =>
      rw [Bool.not_false, Bool.true_and]
      exact ⟨fun h => rci_n v i k _ _ hv hi (by omega) hx hy (by rw [dot_beq, hd]) _ _ (ih1 h), fun h => rci_n v i k _ _ hv hi (by omega) hx hy (by rw [dot_beq, hd]) _ _ (ih2 h)⟩

theorem rc_n (v : List BE) (i : Nat) (x : BE) (hv : v.length ≤ 1000000000) (hk : (i : Int) < (v.length : Int)) (h0 : RunL P G none 0 (loopAt P 16 1) (rcI v i 0) (.exit 2) (rcX v i)) (hx : v[i]? = some x) (hq : validB x = true) (ex : AEx) (s : St) (hs : ¬ (i : Int) > 0) (h : RunL P G none 0 (loopAt P 16 0) (St.mk (slots 50 [(0, AV.sl 5 false (encs v)), (3, int (↑(i + 1) : Int))]) [] []) ex s) : RunL P G none 0 (loopAt P 16 0) (rcSt v i) ex s := by
  exact loop_next [kv 7 (show Am.Sub (int (↑(List.length (encs v)) : Int)) (int (↑(List.length v) : Int)) from (Sub.of_eq (by simp only [Go.Bd.encs_length]))), kt (show decide ((↑i : Int) < (↑(List.length v) : Int)) = true from (decide_eq_true (by omega))), ko (Orc.elem (enc x)), kp (show (0 : Int) ≤ (↑i : Int) ∧ (encs v)[Int.toNat (↑i : Int)]? = some (enc x) from (el_nat hx)), kc [] (@Go.Bd.rvalid_c (x)), kf (show (!validB x) = false from (congrArg Bool.not (hq))), kf (show decide ((↑i : Int) > (0 : Int)) = false from (decide_eq_false (by omega))), kf (Eq.refl false), kl [5, 6, 7, 8, 11, 12, 13, 14, 15, 16, 17, 18, 19, 20, 21, 22, 23, 24, 25, 26, 27, 28, 29, 30, 31, 32, 33] 0 (@h0 ), kv 10 (show Am.Sub (int (IntKind.wrap IntKind.i64 ((↑i : Int) + 1))) (int (↑(i + 1) : Int)) from (Sub.of_wrap (by omega) (by omega) (by omega)))] (others 50 [0, 3]) 0 h (by kernel_rfl)

theorem rc_m (v : List BE) (i : Nat) (x : BE) (hv : v.length ≤ 1000000000) (hk : (i : Int) < (v.length : Int)) (h0 : RunL P G none 0 (loopAt P 16 1) (rcI v i 0) (.exit 2) (rcX v i)) (hx : v[i]? = some x) (hq : validB x = true) (hs : (i : Int) > 0) (ex : AEx) (s : St) (h : (∃ x3 : BE, ((0 : Int) ≤ (↑i : Int) - 1 ∧ v[Int.toNat ((↑i : Int) - 1)]? = some x3) ∧ ((((lessB x3 x) = true) → RunL P G none 0 (loopAt P 16 0) (St.mk (slots 50 [(0, AV.sl 5 false (encs v)), (3, int (↑(i + 1) : Int))]) [] []) ex s) ∧ (((lessB x3 x) = false) → (AEx.ret = ex) ∧ (St.mk (slots 50 []) [] [] = s))))) : RunL P G none 0 (loopAt P 16 0) (rcSt v i) ex s := by
  have hz0 : Am.Sub (int (↑(List.length (encs v)) : Int)) (int (↑(List.length v) : Int)) := (Sub.of_eq (by simp only [Go.Bd.encs_length]))
  have hz1 : decide ((↑i : Int) < (↑(List.length v) : Int)) = true := (decide_eq_true (by omega))
  have hz2 : (0 : Int) ≤ (↑i : Int) ∧ (encs v)[Int.toNat (↑i : Int)]? = some (enc x) := (el_nat hx)
  have hz3 := (@Go.Bd.rvalid_c (x))
  have hz4 : (!validB x) = false := (congrArg Bool.not (hq))
  have hz5 : decide ((↑i : Int) > (0 : Int)) = true := (decide_eq_true (by omega))
  have hz6 : Am.Sub (int (IntKind.wrap IntKind.i64 ((↑i : Int) - 1))) (int ((↑i : Int) - 1)) := (Sub.of_wrap (by omega) (by omega) rfl)
  obtain ⟨x3, o4, h⟩ := h
  have hz7 : (0 : Int) ≤ (↑i : Int) - 1 ∧ (encs v)[Int.toNat ((↑i : Int) - 1)]? = some (enc x3) := (el_int o4)
  have hz8 := (@Go.Bd.less_c (x3) (x))
  rcases Bool.eq_false_or_eq_true ((lessB x3 x)) with c5 | c5
  · have h := h.1 c5
    exact loop_next [kv 7 hz0, kt hz1, ko (Orc.elem (enc x)), kp hz2, kc [] hz3, kf hz4, kt hz5, kv 23 hz6, ko (Orc.elem (enc x3)), ko (Orc.elem (enc x)), kp hz7, kp hz2, kc [] hz8, kf (show (!lessB x3 x) = false from (congrArg Bool.not (c5))), kl [5, 6, 7, 8, 11, 12, 13, 14, 15, 16, 17, 18, 19, 20, 21, 22, 23, 24, 25, 26, 27, 28, 29, 30, 31, 32, 33] 0 (@h0 ), kv 10 (show Am.Sub (int (IntKind.wrap IntKind.i64 ((↑i : Int) + 1))) (int (↑(i + 1) : Int)) from (Sub.of_wrap (by omega) (by omega) (by omega)))] (others 50 [0, 3]) 0 h (by kernel_rfl)
  · have h := h.2 c5
    obtain ⟨eX, eS⟩ := h
    exact RunL.to ((show RunL P G none 0 (loopAt P 16 0) (rcSt v i) AEx.ret (St.mk (slots 50 []) [] []) from loop_exit [kv 7 hz0, kt hz1, ko (Orc.elem (enc x)), kp hz2, kc [] hz3, kf hz4, kt hz5, kv 23 hz6, ko (Orc.elem (enc x3)), ko (Orc.elem (enc x)), kp hz7, kp hz2, kc [] hz8, kt (show (!lessB x3 x) = true from (congrArg Bool.not (c5)))] (others 50 []) 0 (by kernel_rfl))) eX (SubS.of_eq eS)

theorem rc_v (v : List BE) (i : Nat) (x : BE) (hv : v.length ≤ 1000000000) (hk : (i : Int) < (v.length : Int)) (hx : v[i]? = some x) (hq : validB x = false) (h : True) : RunL P G none 0 (loopAt P 16 0) (rcSt v i) AEx.ret (rcR 140) := by
  have _ := h
  exact loop_exit [kv 7 (show Am.Sub (int (↑(List.length (encs v)) : Int)) (int (↑(List.length v) : Int)) from (Sub.of_eq (by simp only [Go.Bd.encs_length]))), kt (show decide ((↑i : Int) < (↑(List.length v) : Int)) = true from (decide_eq_true (by omega))), ko (Orc.elem (enc x)), kp (show (0 : Int) ≤ (↑i : Int) ∧ (encs v)[Int.toNat (↑i : Int)]? = some (enc x) from (el_nat hx)), kc [] (@Go.Bd.rvalid_c (x)), kt (show (!validB x) = true from (congrArg Bool.not (hq))), kt (Eq.refl true)] (others 50 [2]) 0 (by kernel_rfl)

theorem rc_l (v : List BE) (i : Nat) (x : BE) (hv : v.length ≤ 1000000000) (hk : (i : Int) < (v.length : Int)) (h0 : RunL P G none 0 (loopAt P 16 1) (rcI v i 0) (.exit 2) (rcX v i)) (hx : v[i]? = some x) (hq : validB x = true) (hs : (i : Int) > 0) (h : (∃ x3 : BE, ((0 : Int) ≤ (↑i : Int) - 1 ∧ v[Int.toNat ((↑i : Int) - 1)]? = some x3) ∧ ((((lessB x3 x) = true) → RunL P G none 0 (loopAt P 16 0) (St.mk (slots 50 [(0, AV.sl 5 false (encs v)), (3, int (↑(i + 1) : Int))]) [] []) AEx.ret (rcR 140)) ∧ (((lessB x3 x) = false) → True)))) : RunL P G none 0 (loopAt P 16 0) (rcSt v i) AEx.ret (rcR 140) := by
  have hz0 : Am.Sub (int (↑(List.length (encs v)) : Int)) (int (↑(List.length v) : Int)) := (Sub.of_eq (by simp only [Go.Bd.encs_length]))
  have hz1 : decide ((↑i : Int) < (↑(List.length v) : Int)) = true := (decide_eq_true (by omega))
  have hz2 : (0 : Int) ≤ (↑i : Int) ∧ (encs v)[Int.toNat (↑i : Int)]? = some (enc x) := (el_nat hx)
  have hz3 := (@Go.Bd.rvalid_c (x))
  have hz4 : (!validB x) = false := (congrArg Bool.not (hq))
  have hz5 : decide ((↑i : Int) > (0 : Int)) = true := (decide_eq_true (by omega))
  have hz6 : Am.Sub (int (IntKind.wrap IntKind.i64 ((↑i : Int) - 1))) (int ((↑i : Int) - 1)) := (Sub.of_wrap (by omega) (by omega) rfl)
  obtain ⟨x3, o4, h⟩ := h
  have hz7 : (0 : Int) ≤ (↑i : Int) - 1 ∧ (encs v)[Int.toNat ((↑i : Int) - 1)]? = some (enc x3) := (el_int o4)
  have hz8 := (@Go.Bd.less_c (x3) (x))
  rcases Bool.eq_false_or_eq_true ((lessB x3 x)) with c5 | c5
  · have h := h.1 c5
    exact loop_next [kv 7 hz0, kt hz1, ko (Orc.elem (enc x)), kp hz2, kc [] hz3, kf hz4, kt hz5, kv 23 hz6, ko (Orc.elem (enc x3)), ko (Orc.elem (enc x)), kp hz7, kp hz2, kc [] hz8, kf (show (!lessB x3 x) = false from (congrArg Bool.not (c5))), kl [5, 6, 7, 8, 11, 12, 13, 14, 15, 16, 17, 18, 19, 20, 21, 22, 23, 24, 25, 26, 27, 28, 29, 30, 31, 32, 33] 0 (@h0 ), kv 10 (show Am.Sub (int (IntKind.wrap IntKind.i64 ((↑i : Int) + 1))) (int (↑(i + 1) : Int)) from (Sub.of_wrap (by omega) (by omega) (by omega)))] (others 50 [0, 3]) 0 h (by kernel_rfl)
  · have h := h.2 c5
    have _ := h
    exact loop_exit [kv 7 hz0, kt hz1, ko (Orc.elem (enc x)), kp hz2, kc [] hz3, kf hz4, kt hz5, kv 23 hz6, ko (Orc.elem (enc x3)), ko (Orc.elem (enc x)), kp hz7, kp hz2, kc [] hz8, kt (show (!lessB x3 x) = true from (congrArg Bool.not (c5)))] (others 50 [2]) 0 (by kernel_rfl)

theorem rc_b (v : List BE) (i : Nat) (hv : v.length ≤ 1000000000) (hk : (i : Int) < (v.length : Int)) (h0 : RunL P G none 0 (loopAt P 16 1) (rcI v i 0) .ret (rcR 140)) (h : (∃ x2 : BE, (v[i]? = some x2) ∧ ((((validB x2) = true) → ((((↑i : Int) > (0 : Int)) → (∃ x6 : BE, ((0 : Int) ≤ (↑i : Int) - 1 ∧ v[Int.toNat ((↑i : Int) - 1)]? = some x6) ∧ ((((lessB x6 x2) = true) → True) ∧ (((lessB x6 x2) = false) → True)))) ∧ ((¬(↑i : Int) > (0 : Int)) → True))) ∧ (((validB x2) = false) → True)))) : RunL P G none 0 (loopAt P 16 0) (rcSt v i) AEx.ret (rcR 140) := by
  have hz0 : Am.Sub (int (↑(List.length (encs v)) : Int)) (int (↑(List.length v) : Int)) := (Sub.of_eq (by simp only [Go.Bd.encs_length]))
  have hz1 : decide ((↑i : Int) < (↑(List.length v) : Int)) = true := (decide_eq_true (by omega))
  have hz9 := (@h0 )
  obtain ⟨x2, o3, h⟩ := h
  have hz2 : (0 : Int) ≤ (↑i : Int) ∧ (encs v)[Int.toNat (↑i : Int)]? = some (enc x2) := (el_nat o3)
  have hz3 := (@Go.Bd.rvalid_c (x2))
  rcases Bool.eq_false_or_eq_true ((validB x2)) with c4 | c4
  · have h := h.1 c4
    have hz4 : (!validB x2) = false := (congrArg Bool.not (c4))
    by_cases c5 : ((↑i : Int) > (0 : Int))
    · have h := h.1 c5
      have hz5 : Am.Sub (int (IntKind.wrap IntKind.i64 ((↑i : Int) - 1))) (int ((↑i : Int) - 1)) := (Sub.of_wrap (by omega) (by omega) rfl)
      obtain ⟨x6, o7, h⟩ := h
      have hz6 : (0 : Int) ≤ (↑i : Int) - 1 ∧ (encs v)[Int.toNat ((↑i : Int) - 1)]? = some (enc x6) := (el_int o7)
      have hz7 := (@Go.Bd.less_c (x6) (x2))
      rcases Bool.eq_false_or_eq_true ((lessB x6 x2)) with c8 | c8
      · have h := h.1 c8
        have _ := h
        exact loop_exit [kv 7 hz0, kt hz1, ko (Orc.elem (enc x2)), kp hz2, kc [] hz3, kf hz4, kt (decide_eq_true c5), kv 23 hz5, ko (Orc.elem (enc x6)), ko (Orc.elem (enc x2)), kp hz6, kp hz2, kc [] hz7, kf (show (!lessB x6 x2) = false from (congrArg Bool.not (c8))), kl [5, 6, 7, 8, 11, 12, 13, 14, 15, 16, 17, 18, 19, 20, 21, 22, 23, 24, 25, 26, 27, 28, 29, 30, 31, 32, 33] 0 hz9] (others 50 [2]) 0 (by kernel_rfl)
      · have h := h.2 c8
        have _ := h
        exact loop_exit [kv 7 hz0, kt hz1, ko (Orc.elem (enc x2)), kp hz2, kc [] hz3, kf hz4, kt (decide_eq_true c5), kv 23 hz5, ko (Orc.elem (enc x6)), ko (Orc.elem (enc x2)), kp hz6, kp hz2, kc [] hz7, kt (show (!lessB x6 x2) = true from (congrArg Bool.not (c8)))] (others 50 [2]) 0 (by kernel_rfl)
    · have h := h.2 c5
      have _ := h
      exact loop_exit [kv 7 hz0, kt hz1, ko (Orc.elem (enc x2)), kp hz2, kc [] hz3, kf hz4, kf (decide_eq_false c5), kf (Eq.refl false), kl [5, 6, 7, 8, 11, 12, 13, 14, 15, 16, 17, 18, 19, 20, 21, 22, 23, 24, 25, 26, 27, 28, 29, 30, 31, 32, 33] 0 hz9] (others 50 [2]) 0 (by kernel_rfl)
  · have h := h.2 c4
    have _ := h
    exact loop_exit [kv 7 hz0, kt hz1, ko (Orc.elem (enc x2)), kp hz2, kc [] hz3, kt (show (!validB x2) = true from (congrArg Bool.not (c4))), kt (Eq.refl true)] (others 50 [2]) 0 (by kernel_rfl)

theorem rc_e (v : List BE) (i : Nat) (hv : v.length ≤ 1000000000) (hk : ¬ (i : Int) < (v.length : Int)) (h : True) : RunL P G none 0 (loopAt P 16 0) (rcSt v i) (AEx.exit 0) rcO := by
  have _ := h
  exact loop_exit [kv 7 (show Am.Sub (int (↑(List.length (encs v)) : Int)) (int (↑(List.length v) : Int)) from (Sub.of_eq (by simp only [Go.Bd.encs_length]))), kf (show decide ((↑i : Int) < (↑(List.length v) : Int)) = false from (decide_eq_false (by omega)))] (others 50 []) 0 (by kernel_rfl)

theorem prev_get (v : List BE) {i : Nat} (h : i ≤ v.length) (h0 : (i : Int) > 0) : v[((i : Int) - 1).toNat]? = some (v[i - 1]'(by omega)) := by
  rw [show ((i : Int) - 1).toNat = i - 1 by omega]; exact List.getElem?_eq_getElem _
theorem rc_loop (v : List BE) (hv : v.length ≤ 1000000000) : ∀ n i, v.length - i = n → i ≤ v.length → (okN v n i = true → RunL P G none 0 (loopAt P 16 0) (rcSt v i) (.exit 0) rcO) ∧ (okN v n i = false → RunL P G none 0 (loopAt P 16 0) (rcSt v i) .ret (rcR 140)) := by
  intro n
  induction n with
  | zero => intro i hn hk; exact ⟨fun _ => rc_e v i hv (by omega) trivial, fun h => by cases h⟩
  | succ n ih =>
    intro i hn hk
    have hlt : i < v.length := by omega
    have hx : v[i]? = some v[i] := List.getElem?_eq_getElem hlt
    obtain ⟨n1, n2⟩ := ih (i + 1) (by omega) (by omega)
    obtain ⟨i1, i2⟩ := rci_loop v i hv hlt i 0 (by omega) (by omega)
    have e : okN v (n + 1) i = (okAt v i && okN v n (i + 1)) := rfl
    rw [dotN_any v v[i] i (by omega)] at i1 i2
    rw [e]
    by_cases h0 : (i : Int) > 0
    · have hy := prev_get v hk h0
      have hy' : v[i - 1]? = some (v[i - 1]'(by omega)) := List.getElem?_eq_getElem (by omega)
      have hn0 : (i == 0) = false := by simp; omega
      cases hq : validB v[i] with
      | false =>
        have e2 : okAt v i = false := by simp only [okAt, hx, hq, Bool.false_and]
        rw [e2, Bool.false_and]
        exact ⟨fun h => by (cases h), fun _ => rc_v v i _ hv (by omega) hx hq trivial⟩
      | true =>
        cases hd : (v.take i).any fun c => decide (c.dot = v[i].dot) with
        | true =>
          rw [hd] at i2
          have e2 : okAt v i = false := by simp only [okAt, hx, hd, Bool.not_true, Bool.and_false]
          rw [e2, Bool.false_and]
          exact ⟨fun h => by (cases h), fun _ => rc_b v i hv (by omega) (i2 rfl) ⟨v[i], hx, ⟨fun _ => ⟨fun _ => ⟨_, ⟨by omega, hy⟩, fun _ => trivial, fun _ => trivial⟩, fun _ => trivial⟩, fun _ => trivial⟩⟩⟩
        | false =>
          rw [hd] at i1
          cases hl : lessB (v[i - 1]'(by omega)) v[i] with
          | false =>
            have e2 : okAt v i = false := by simp only [okAt, hx, hy', hq, hl, hn0, Bool.false_and, Bool.and_false, Bool.or_self]
            rw [e2, Bool.false_and]
            exact ⟨fun h => by (cases h), fun _ => rc_l v i _ hv (by omega) (i1 rfl) hx hq h0 ⟨_, ⟨by omega, hy⟩, fun h => (by rw [hl] at h; cases h), fun _ => trivial⟩⟩
          | true =>
            have e2 : okAt v i = true := by simp only [okAt, hx, hy', hq, hl, hd, Bool.true_and, Bool.or_true, Bool.not_false, Bool.and_true]
            rw [e2, Bool.true_and]
            exact ⟨fun h => rc_m v i _ hv (by omega) (i1 rfl) hx hq h0 _ _ ⟨_, ⟨by omega, hy⟩, fun _ => n1 h, fun h => (by rw [hl] at h; cases h)⟩, fun h => rc_m v i _ hv (by omega) (i1 rfl) hx hq h0 _ _ ⟨_, ⟨by omega, hy⟩, fun _ => n2 h, fun h => (by rw [hl] at h; cases h)⟩⟩
    · have hn0 : (i == 0) = true := by simp; omega
      have ht : v.take i = [] := by rw [show i = 0 by omega]; rfl
      rw [ht] at i1
      cases hq : validB v[i] with
      | false =>
        have e2 : okAt v i = false := by simp only [okAt, hx, hq, Bool.false_and]
        rw [e2, Bool.false_and]
        exact ⟨fun h => by (cases h), fun _ => rc_v v i _ hv (by omega) hx hq trivial⟩
      | true =>
        have e2 : okAt v i = true := by simp only [okAt, hx, hq, hn0, ht, List.any_nil, Bool.true_and, Bool.true_or, Bool.not_false, Bool.and_true]
        rw [e2, Bool.true_and]
        exact ⟨fun h => rc_n v i _ hv (by omega) (i1 rfl) hx hq _ _ h0 (n1 h), fun h => rc_n v i _ hv (by omega) (i1 rfl) hx hq _ _ h0 (n2 h)⟩
theorem rc_ok (v : List BE) (hv : v.length ≤ 1000000000) (hb : okB v = true) : RunL P G none 0 (loopAt P 16 0) (rcSt v 0) (.exit 0) rcO := (rc_loop v hv v.length 0 (by omega) (by omega)).1 hb
theorem rc_no (v : List BE) (hv : v.length ≤ 1000000000) (hb : okB v = false) : RunL P G none 0 (loopAt P 16 0) (rcSt v 0) .ret (rcR 140) := (rc_loop v hv v.length 0 (by omega) (by omega)).2 hb

theorem rcheck_y (v : List BE) (h0 : RunL P G none 0 (loopAt P 16 0) (rcSt v 0) (.exit 0) rcO) (h : True) : CallC P G 16 [bes v] [] (AOut.ret (int 0)) [] := by
  have _ := h
  exact callC_of [kl [1, 2, 4, 5, 6, 7, 8, 9, 10, 11, 12, 13, 14, 15, 16, 17, 18, 19, 20, 21, 22, 23, 24, 25, 26, 27, 28, 29, 30, 31, 32, 33, 34, 35, 36, 37, 38, 39, 40, 41, 42, 43, 44, 45, 46, 47, 48, 49] 0 (@h0 )] (by kernel_rfl)

theorem rcheck_n (v : List BE) (h0 : RunL P G none 0 (loopAt P 16 0) (rcSt v 0) .ret (rcR 140)) (h : True) : CallC P G 16 [bes v] [] (AOut.ret (int 140)) [] := by
  have _ := h
  exact callC_of [kl [1, 2, 4, 5, 6, 7, 8, 9, 10, 11, 12, 13, 14, 15, 16, 17, 18, 19, 20, 21, 22, 23, 24, 25, 26, 27, 28, 29, 30, 31, 32, 33, 34, 35, 36, 37, 38, 39, 40, 41, 42, 43, 44, 45, 46, 47, 48, 49] 0 (@h0 )] (by kernel_rfl)

theorem rcheck_c (v : List BE) (hv : v.length ≤ 1000000000) : CallC P G 16 [bes v] [] (.ret (int (chkE v))) [] := by
  unfold chkE
  cases hb : okB v with
  | true => exact rcheck_y v (rc_ok v hv hb) trivial
  | false => exact rcheck_n v (rc_no v hv hb) trivial

end Go.Bd
