import Derived.Test.YtflocgjejaoeiaaDoorG13
import Derived.KernelRfl
import Derived.DeepKeys4
import Derived.Maps.Keyed
/- BINDS, 6: the program's Check. -/
namespace Go.Bd
set_option maxRecDepth 100000
set_option linter.unusedSimpArgs false
set_option linter.unusedVariables false
open Go Go.Am Go.Proofs Go.Seat

def InR (a : Int) : Prop := -9223372036854775808 ≤ a ∧ a < 9223372036854775808
def dotV (a b : Int) : Value := .agg #[.int .i64 a, .int .i64 b]
def metE (v : List BE) : List (Value × AV) := v.map fun x => (dotV x.dv x.sq, bool true)
theorem met_ids (v : List BE) : ∀ e ∈ metE v, AV.idsLt 1 e.2 = true := by
  intro e he
  obtain ⟨x, _, rfl⟩ := List.mem_map.1 he
  rfl
def ckSt (v : List BE) (k : Nat) (pre : List BE) : St := { env := slots 41 [(0, bes v), (3, .mp 0), (7, bes v), (8, int v.length), (9, int k)], H := [.map (metE pre)] }
def ckO (v : List BE) : St := { env := slots 41 [(0, bes v)], H := [.gone] }
def ckR (r : Int) : St := { env := slots 41 [(2, int r)], H := [.gone] }

theorem ck_v (v : List BE) (k : Nat) (x : BE) (pre : List BE) (hv : v.length ≤ 1000000000) (hk : (k : Int) < (v.length : Int)) (hx : v[k]? = some x) (hq : validB x = false) (h : True) : RunL P G none 0 (loopAt P 7 0) (ckSt v k pre) AEx.ret (ckR 140) := by
  have _ := h
  exact RunL.to (RunL.postH ((show RunL P G none 0 (loopAt P 7 0) (ckSt v k pre) AEx.ret (St.mk (slots 41 [(2, int 140)]) [AObj.map (metE pre)] []) from loop_exit [kt (show decide ((↑k : Int) < (↑(List.length v) : Int)) = true from (decide_eq_true (by omega))), ko (Orc.elem (enc x)), kp (show (0 : Int) ≤ (↑k : Int) ∧ (encs v)[Int.toNat (↑k : Int)]? = some (enc x) from (el_nat hx)), kc [] (@Go.Bd.valid_c (x)), kt (show (!validB x) = true from (congrArg Bool.not (hq))), kt (Eq.refl true), kt (Eq.refl true), kp (show ∀ (e : Value × AV), e ∈ metE pre → AV.idsLt 1 (Prod.snd e) = true from (Go.Bd.met_ids _))] (others 41 [2]) 1 (by kernel_rfl))) (by exact ⟨.inr trivial, trivial⟩)) rfl (SubS.slots ⟨rfl, Sub.refl _, trivial⟩)

theorem ck_b (v : List BE) (k : Nat) (x : BE) (pre : List BE) (hv : v.length ≤ 1000000000) (hk : (k : Int) < (v.length : Int)) (hx : v[k]? = some x) (hq : validB x = true) (hm : MapGet P 24 (metE pre) (dotV x.dv x.sq) (bool false) (bool true) true) (h : ((((↑k : Int) > (0 : Int)) → (∃ x3 : BE, ((0 : Int) ≤ (↑k : Int) - 1 ∧ v[Int.toNat ((↑k : Int) - 1)]? = some x3) ∧ (((inMapV x3 x ≥ (0 : Int)) → True) ∧ ((¬inMapV x3 x ≥ (0 : Int)) → True)))) ∧ ((¬(↑k : Int) > (0 : Int)) → True))) : RunL P G none 0 (loopAt P 7 0) (ckSt v k pre) AEx.ret (ckR 140) := by
  have hz0 : decide ((↑k : Int) < (↑(List.length v) : Int)) = true := (decide_eq_true (by omega))
  have hz1 : (0 : Int) ≤ (↑k : Int) ∧ (encs v)[Int.toNat (↑k : Int)]? = some (enc x) := (el_nat hx)
  have hz2 := (@Go.Bd.valid_c (x))
  have hz3 : (!validB x) = false := (congrArg Bool.not (hq))
  have hz7 : ∀ (e : Value × AV), e ∈ metE pre → AV.idsLt 1 (Prod.snd e) = true := (Go.Bd.met_ids _)
  have hz8 := (@hm )
  by_cases c2 : ((↑k : Int) > (0 : Int))
  · have h := h.1 c2
    have hz4 : Am.Sub (int (IntKind.wrap IntKind.i64 ((↑k : Int) - 1))) (int ((↑k : Int) - 1)) := (Sub.of_wrap (by omega) (by omega) rfl)
    obtain ⟨x3, o4, h⟩ := h
    have hz5 : (0 : Int) ≤ (↑k : Int) - 1 ∧ (encs v)[Int.toNat ((↑k : Int) - 1)]? = some (enc x3) := (el_int o4)
    have hz6 := (@Go.Bd.inMap_c (x3) (x))
    by_cases c5 : (inMapV x3 x ≥ (0 : Int))
    · have h := h.1 c5
      have _ := h
      exact RunL.to (RunL.postH ((show RunL P G none 0 (loopAt P 7 0) (ckSt v k pre) AEx.ret (St.mk (slots 41 [(2, int 140)]) [AObj.map (metE pre)] []) from loop_exit [kt hz0, ko (Orc.elem (enc x)), kp hz1, kc [] hz2, kf hz3, kt (decide_eq_true c2), kv 23 hz4, ko (Orc.elem (enc x3)), kp hz5, kc [] hz6, kt (decide_eq_true c5), kt (Eq.refl true), kp hz7] (others 41 [2]) 1 (by kernel_rfl))) (by exact ⟨.inr trivial, trivial⟩)) rfl (SubS.slots ⟨rfl, Sub.refl _, trivial⟩)
    · have h := h.2 c5
      have _ := h
      exact RunL.to (RunL.postH ((show RunL P G none 0 (loopAt P 7 0) (ckSt v k pre) AEx.ret (St.mk (slots 41 [(2, int 140)]) [AObj.map (metE pre)] []) from loop_exit [kt hz0, ko (Orc.elem (enc x)), kp hz1, kc [] hz2, kf hz3, kt (decide_eq_true c2), kv 23 hz4, ko (Orc.elem (enc x3)), kp hz5, kc [] hz6, kf (decide_eq_false c5), ko (Orc.mget (Am.bool true) true), kp hz8, kt (Eq.refl true), kp hz7] (others 41 [2]) 1 (by kernel_rfl))) (by exact ⟨.inr trivial, trivial⟩)) rfl (SubS.slots ⟨rfl, Sub.refl _, trivial⟩)
  · have h := h.2 c2
    have _ := h
    exact RunL.to (RunL.postH ((show RunL P G none 0 (loopAt P 7 0) (ckSt v k pre) AEx.ret (St.mk (slots 41 [(2, int 140)]) [AObj.map (metE pre)] []) from loop_exit [kt hz0, ko (Orc.elem (enc x)), kp hz1, kc [] hz2, kf hz3, kf (decide_eq_false c2), kf (Eq.refl false), ko (Orc.mget (Am.bool true) true), kp hz8, kt (Eq.refl true), kp hz7] (others 41 [2]) 1 (by kernel_rfl))) (by exact ⟨.inr trivial, trivial⟩)) rfl (SubS.slots ⟨rfl, Sub.refl _, trivial⟩)

theorem ck_e (v : List BE) (k : Nat) (pre : List BE) (hv : v.length ≤ 1000000000) (hk : ¬ (k : Int) < (v.length : Int)) (h : True) : RunL P G none 0 (loopAt P 7 0) (ckSt v k pre) (AEx.exit 0) (ckO v) := by
  have _ := h
  exact RunL.to (RunL.postH ((show RunL P G none 0 (loopAt P 7 0) (ckSt v k pre) (AEx.exit 0) (St.mk (slots 41 [(0, AV.sl 5 false (encs v))]) [AObj.map (metE pre)] []) from loop_exit [kf (show decide ((↑k : Int) < (↑(List.length v) : Int)) = false from (decide_eq_false (by omega)))] (others 41 [0]) 1 (by kernel_rfl))) (by exact ⟨.inr trivial, trivial⟩)) rfl (SubS.slots ⟨rfl, Sub.refl _, trivial⟩)

theorem ck_o (v : List BE) (k : Nat) (x : BE) (pre : List BE) (hv : v.length ≤ 1000000000) (hk : (k : Int) < (v.length : Int)) (hx : v[k]? = some x) (hq : validB x = true) (hs : (k : Int) > 0) (hm : MapGet P 24 (metE pre) (dotV x.dv x.sq) (bool false) (bool false) false) (hp : MapPut P 24 (metE pre) (dotV x.dv x.sq) (bool true) (metE (pre ++ [x]))) (h : (∃ x3 : BE, ((0 : Int) ≤ (↑k : Int) - 1 ∧ v[Int.toNat ((↑k : Int) - 1)]? = some x3) ∧ (((inMapV x3 x ≥ (0 : Int)) → True) ∧ ((¬inMapV x3 x ≥ (0 : Int)) → RunL P G none 0 (loopAt P 7 0) (St.mk (slots 41 [(0, AV.sl 5 false (encs v)), (3, AV.mp 0), (7, AV.sl 5 false (encs v)), (8, int (↑(List.length v) : Int)), (9, int (↑(k + 1) : Int))]) [AObj.map (metE (pre ++ [x]))] []) AEx.ret (ckR 140))))) : RunL P G none 0 (loopAt P 7 0) (ckSt v k pre) AEx.ret (ckR 140) := by
  have hz0 : decide ((↑k : Int) < (↑(List.length v) : Int)) = true := (decide_eq_true (by omega))
  have hz1 : (0 : Int) ≤ (↑k : Int) ∧ (encs v)[Int.toNat (↑k : Int)]? = some (enc x) := (el_nat hx)
  have hz2 := (@Go.Bd.valid_c (x))
  have hz3 : (!validB x) = false := (congrArg Bool.not (hq))
  have hz4 : decide ((↑k : Int) > (0 : Int)) = true := (decide_eq_true (by omega))
  have hz5 : Am.Sub (int (IntKind.wrap IntKind.i64 ((↑k : Int) - 1))) (int ((↑k : Int) - 1)) := (Sub.of_wrap (by omega) (by omega) rfl)
  obtain ⟨x3, o4, h⟩ := h
  have hz6 : (0 : Int) ≤ (↑k : Int) - 1 ∧ (encs v)[Int.toNat ((↑k : Int) - 1)]? = some (enc x3) := (el_int o4)
  have hz7 := (@Go.Bd.inMap_c (x3) (x))
  by_cases c5 : (inMapV x3 x ≥ (0 : Int))
  · have h := h.1 c5
    have _ := h
    exact RunL.to (RunL.postH ((show RunL P G none 0 (loopAt P 7 0) (ckSt v k pre) AEx.ret (St.mk (slots 41 [(2, int 140)]) [AObj.map (metE pre)] []) from loop_exit [kt hz0, ko (Orc.elem (enc x)), kp hz1, kc [] hz2, kf hz3, kt hz4, kv 23 hz5, ko (Orc.elem (enc x3)), kp hz6, kc [] hz7, kt (decide_eq_true c5), kt (Eq.refl true), kp (show ∀ (e : Value × AV), e ∈ metE pre → AV.idsLt 1 (Prod.snd e) = true from (Go.Bd.met_ids _))] (others 41 [2]) 1 (by kernel_rfl))) (by exact ⟨.inr trivial, trivial⟩)) rfl (SubS.slots ⟨rfl, Sub.refl _, trivial⟩)
  · have h := h.2 c5
    exact loop_next [kt hz0, ko (Orc.elem (enc x)), kp hz1, kc [] hz2, kf hz3, kt hz4, kv 23 hz5, ko (Orc.elem (enc x3)), kp hz6, kc [] hz7, kf (decide_eq_false c5), ko (Orc.mget (Am.bool false) false), kp (@hm ), kf (Eq.refl false), ko (Orc.mput (metE (pre ++ [x]))), kp (@hp ), kv 40 (show Am.Sub (int (IntKind.wrap IntKind.i64 ((↑k : Int) + 1))) (int (↑(k + 1) : Int)) from (Sub.of_wrap (by omega) (by omega) (by omega))), kp (show ∀ (e : Value × AV), e ∈ metE (pre ++ [x]) → AV.idsLt 1 (Prod.snd e) = true from (Go.Bd.met_ids _))] (others 41 [0, 3, 7, 8, 9]) 1 h (by kernel_rfl)

theorem ck_n (v : List BE) (k : Nat) (x : BE) (pre : List BE) (hv : v.length ≤ 1000000000) (hk : (k : Int) < (v.length : Int)) (hx : v[k]? = some x) (hq : validB x = true) (hm : MapGet P 24 (metE pre) (dotV x.dv x.sq) (bool false) (bool false) false) (hp : MapPut P 24 (metE pre) (dotV x.dv x.sq) (bool true) (metE (pre ++ [x]))) (ex : AEx) (s : St) (h : ((((↑k : Int) > (0 : Int)) → (∃ x3 : BE, ((0 : Int) ≤ (↑k : Int) - 1 ∧ v[Int.toNat ((↑k : Int) - 1)]? = some x3) ∧ (((inMapV x3 x ≥ (0 : Int)) → (AEx.ret = ex) ∧ (St.mk (slots 41 []) [AObj.map (metE pre)] [] = s)) ∧ ((¬inMapV x3 x ≥ (0 : Int)) → RunL P G none 0 (loopAt P 7 0) (St.mk (slots 41 [(0, AV.sl 5 false (encs v)), (3, AV.mp 0), (7, AV.sl 5 false (encs v)), (8, int (↑(List.length v) : Int)), (9, int (↑(k + 1) : Int))]) [AObj.map (metE (pre ++ [x]))] []) ex s)))) ∧ ((¬(↑k : Int) > (0 : Int)) → RunL P G none 0 (loopAt P 7 0) (St.mk (slots 41 [(0, AV.sl 5 false (encs v)), (3, AV.mp 0), (7, AV.sl 5 false (encs v)), (8, int (↑(List.length v) : Int)), (9, int (↑(k + 1) : Int))]) [AObj.map (metE (pre ++ [x]))] []) ex s))) : RunL P G none 0 (loopAt P 7 0) (ckSt v k pre) ex s := by
  have hz0 : decide ((↑k : Int) < (↑(List.length v) : Int)) = true := (decide_eq_true (by omega))
  have hz1 : (0 : Int) ≤ (↑k : Int) ∧ (encs v)[Int.toNat (↑k : Int)]? = some (enc x) := (el_nat hx)
  have hz2 := (@Go.Bd.valid_c (x))
  have hz3 : (!validB x) = false := (congrArg Bool.not (hq))
  have hz8 := (@hm )
  have hz9 := (@hp )
  have hz11 : ∀ (e : Value × AV), e ∈ metE (pre ++ [x]) → AV.idsLt 1 (Prod.snd e) = true := (Go.Bd.met_ids _)
  by_cases c2 : ((↑k : Int) > (0 : Int))
  · have h := h.1 c2
    have hz4 : Am.Sub (int (IntKind.wrap IntKind.i64 ((↑k : Int) - 1))) (int ((↑k : Int) - 1)) := (Sub.of_wrap (by omega) (by omega) rfl)
    obtain ⟨x3, o4, h⟩ := h
    have hz5 : (0 : Int) ≤ (↑k : Int) - 1 ∧ (encs v)[Int.toNat ((↑k : Int) - 1)]? = some (enc x3) := (el_int o4)
    have hz6 := (@Go.Bd.inMap_c (x3) (x))
    by_cases c5 : (inMapV x3 x ≥ (0 : Int))
    · have h := h.1 c5
      obtain ⟨eX, eS⟩ := h
      exact RunL.to ((show RunL P G none 0 (loopAt P 7 0) (ckSt v k pre) AEx.ret (St.mk (slots 41 []) [AObj.map (metE pre)] []) from loop_exit [kt hz0, ko (Orc.elem (enc x)), kp hz1, kc [] hz2, kf hz3, kt (decide_eq_true c2), kv 23 hz4, ko (Orc.elem (enc x3)), kp hz5, kc [] hz6, kt (decide_eq_true c5), kt (Eq.refl true), kp (show ∀ (e : Value × AV), e ∈ metE pre → AV.idsLt 1 (Prod.snd e) = true from (Go.Bd.met_ids _))] (others 41 []) 1 (by kernel_rfl))) eX (SubS.of_eq eS)
    · have h := h.2 c5
      exact loop_next [kt hz0, ko (Orc.elem (enc x)), kp hz1, kc [] hz2, kf hz3, kt (decide_eq_true c2), kv 23 hz4, ko (Orc.elem (enc x3)), kp hz5, kc [] hz6, kf (decide_eq_false c5), ko (Orc.mget (Am.bool false) false), kp hz8, kf (Eq.refl false), ko (Orc.mput (metE (pre ++ [x]))), kp hz9, kv 40 (show Am.Sub (int (IntKind.wrap IntKind.i64 ((↑k : Int) + 1))) (int (↑(k + 1) : Int)) from (Sub.of_wrap (by omega) (by omega) (by omega))), kp hz11] (others 41 [0, 3, 7, 8, 9]) 1 h (by kernel_rfl)
  · have h := h.2 c2
    exact loop_next [kt hz0, ko (Orc.elem (enc x)), kp hz1, kc [] hz2, kf hz3, kf (decide_eq_false c2), kf (Eq.refl false), ko (Orc.mget (Am.bool false) false), kp hz8, kf (Eq.refl false), ko (Orc.mput (metE (pre ++ [x]))), kp hz9, kv 40 (show Am.Sub (int (IntKind.wrap IntKind.i64 ((↑k : Int) + 1))) (int (↑(k + 1) : Int)) from (Sub.of_wrap (by omega) (by omega) (by omega))), kp hz11] (others 41 [0, 3, 7, 8, 9]) 1 h (by kernel_rfl)

theorem laid : laidOutB P = true := by kernel_rfl
theorem InR.wf {n : Int} (h : InR n) : (Lit.int .i64 n).wf = true := by
  unfold InR at h
  simp [Lit.wf, IntKind.min, IntKind.max, IntKind.signed, IntKind.bits]; omega
theorem sz1 : ∃ n, P.types.size = n + 1 := by
  have h : 1 ≤ P.types.size := Nat.le_of_ble_eq_true (by kernel_rfl)
  exact ⟨P.types.size - 1, by omega⟩
theorem lits1 (d : Nat) {n : Int} (h : InR n) : P.keyLits (d + 1) 3 [.int .i64 n] = some [.int .i64 n] := by
  simp [Program.keyLits, Tryd.underlying3, h.wf]
theorem keyedD : Maps.Keyed P 24 := Maps.Keyed.of_law (deep_law_laid laid (m := 2) (by decide) (Nat.le_of_ble_eq_true (by kernel_rfl)) (by kernel_rfl) (by kernel_rfl))
theorem keyD {a b : Int} (ha : InR a) (hb : InR b) : ∃ l, keyOf P 24 (dotV a b) = some l := by
  have h1 : (P.keyType 24 && (dotV a b).formed P 24) = true := by kernel_rfl
  have h2 : P.keyLits (P.types.size + 1) 24 (dotV a b).cells.toList = ([P.keyLits P.types.size 3 [.int .i64 a], P.keyLits P.types.size 3 [.int .i64 b]].mapM id).map List.flatten := by kernel_rfl
  obtain ⟨n, hn⟩ := sz1
  refine ⟨.string (keyBytes [.int .i64 a, .int .i64 b]), ?_⟩
  unfold keyOf
  rw [Tryd.underlying24]
  show (if (P.keyType 24 && (dotV a b).formed P 24) = true then _ else none) = _
  rw [if_pos h1, h2, hn, lits1 n ha, lits1 n hb]
  rfl

theorem dotV_inj {a b a' b' : Int} (h : dotV a b = dotV a' b') : a = a' ∧ b = b' := by
  simp only [dotV, Value.agg.injEq, Array.mk.injEq, List.cons.injEq, Value.int.injEq, true_and, and_true] at h
  exact h
theorem valid_rng {x : BE} (h : validB x = true) : InR x.dv ∧ InR x.sq := by
  simp only [validB, Bool.and_eq_true, decide_eq_true_eq] at h
  unfold InR
  omega
theorem met_keys {v : List BE} (h : ∀ x ∈ v, validB x = true) : ∀ e ∈ metE v, ∃ l, keyOf P 24 e.1 = some l := fun e he => by
  obtain ⟨x, hx, rfl⟩ := List.mem_map.1 he
  obtain ⟨h1, h2⟩ := valid_rng (h x hx)
  exact keyD h1 h2
theorem met_get {v : List BE} (h : ∀ x ∈ v, validB x = true) {x : BE} (hx : validB x = true) (hm : (v.any fun c => decide (c.dot = x.dot)) = true) : MapGet P 24 (metE v) (dotV x.dv x.sq) (bool false) (bool true) true := by
  obtain ⟨y, hy, e⟩ := List.any_eq_true.1 hm
  have e := of_decide_eq_true e
  obtain ⟨h1, h2⟩ := valid_rng hx
  refine ⟨keyedD, keyD h1 h2, met_keys h, .inl ⟨rfl, List.mem_map.2 ⟨y, hy, ?_⟩⟩⟩
  simp only [BE.dot, Prod.mk.injEq] at e
  rw [e.1, e.2]
theorem met_no {v : List BE} {x : BE} (hm : (v.any fun c => decide (c.dot = x.dot)) = false) : ∀ e ∈ metE v, e.1 ≠ dotV x.dv x.sq := fun e he hq => by
  obtain ⟨y, hy, rfl⟩ := List.mem_map.1 he
  obtain ⟨q1, q2⟩ := dotV_inj hq
  have := List.any_eq_false.1 hm y hy
  rw [decide_eq_true_eq] at this
  exact this (by rw [BE.dot, BE.dot, q1, q2])
theorem met_none {v : List BE} (h : ∀ x ∈ v, validB x = true) {x : BE} (hx : validB x = true) (hm : (v.any fun c => decide (c.dot = x.dot)) = false) : MapGet P 24 (metE v) (dotV x.dv x.sq) (bool false) (bool false) false := by
  obtain ⟨h1, h2⟩ := valid_rng hx
  exact ⟨keyedD, keyD h1 h2, met_keys h, .inr ⟨rfl, rfl, met_no hm⟩⟩
theorem met_put {v : List BE} (h : ∀ x ∈ v, validB x = true) {x : BE} (hx : validB x = true) (hm : (v.any fun c => decide (c.dot = x.dot)) = false) : MapPut P 24 (metE v) (dotV x.dv x.sq) (bool true) (metE (v ++ [x])) := by
  obtain ⟨h1, h2⟩ := valid_rng hx
  exact ⟨keyedD, keyD h1 h2, met_keys h, .inr ⟨met_no hm, by simp [metE]⟩⟩

theorem ck_loop (v : List BE) (hv : v.length ≤ 1000000000) : ∀ n k, v.length - k = n → k ≤ v.length → (∀ x ∈ v.take k, validB x = true) → (okN v n k = true → RunL P G none 0 (loopAt P 7 0) (ckSt v k (v.take k)) (.exit 0) (ckO v)) ∧ (okN v n k = false → RunL P G none 0 (loopAt P 7 0) (ckSt v k (v.take k)) .ret (ckR 140)) := by
  intro n
  induction n with
  | zero => intro k hn hk _; exact ⟨fun _ => ck_e v k _ hv (by omega) trivial, fun h => by cases h⟩
  | succ n ih =>
    intro k hn hk hpre
    have hlt : k < v.length := by omega
    have hx : v[k]? = some v[k] := List.getElem?_eq_getElem hlt
    have e : okN v (n + 1) k = (okAt v k && okN v n (k + 1)) := rfl
    rw [e]
    cases hq : validB v[k] with
    | false =>
      have e2 : okAt v k = false := by simp only [okAt, hx, hq, Bool.false_and]
      rw [e2, Bool.false_and]
      exact ⟨fun h => by (cases h), fun _ => ck_v v k _ _ hv (by omega) hx hq trivial⟩
    | true =>
      have ht : v.take (k + 1) = v.take k ++ [v[k]] := by rw [List.take_append_getElem]
      have hpre' : ∀ x ∈ v.take (k + 1), validB x = true := by
        intro x hx'
        rw [ht] at hx'
        rcases List.mem_append.1 hx' with h | h
        · exact hpre x h
        · rw [List.mem_singleton.1 h]; exact hq
      obtain ⟨n1, n2⟩ := ih (k + 1) (by omega) (by omega) hpre'
      rw [ht] at n1 n2
      cases hd : (v.take k).any fun c => decide (c.dot = v[k].dot) with
      | true =>
        have e2 : okAt v k = false := by simp only [okAt, hx, hd, Bool.not_true, Bool.and_false]
        rw [e2, Bool.false_and]
        refine ⟨fun h => by (cases h), fun _ => ck_b v k _ _ hv (by omega) hx hq (met_get hpre hq hd) ⟨fun h0 => ?_, fun _ => trivial⟩⟩
        exact ⟨_, ⟨by omega, prev_get v hk h0⟩, fun _ => trivial, fun _ => trivial⟩
      | false =>
        have g := met_none hpre hq hd
        have p := met_put hpre hq hd
        by_cases h0 : (k : Int) > 0
        · have hy := prev_get v hk h0
          have hy' : v[k - 1]? = some (v[k - 1]'(by omega)) := List.getElem?_eq_getElem (by omega)
          have hn0 : (k == 0) = false := by simp; omega
          cases hl : lessB (v[k - 1]'(by omega)) v[k] with
          | false =>
            have e2 : okAt v k = false := by simp only [okAt, hx, hy', hq, hl, hn0, Bool.false_and, Bool.and_false, Bool.or_self]
            rw [e2, Bool.false_and]
            have hg := (inMap_ge (v[k - 1]'(by omega)) v[k]).2 hl
            exact ⟨fun h => by (cases h), fun _ => ck_o v k _ _ hv (by omega) hx hq h0 g p ⟨_, ⟨by omega, hy⟩, fun _ => trivial, fun h => absurd hg h⟩⟩
          | true =>
            have e2 : okAt v k = true := by simp only [okAt, hx, hy', hq, hl, hd, Bool.true_and, Bool.or_true, Bool.not_false, Bool.and_true]
            rw [e2, Bool.true_and]
            have hg : ¬ inMapV (v[k - 1]'(by omega)) v[k] ≥ 0 := fun h => by rw [(inMap_ge _ _).1 h] at hl; cases hl
            exact ⟨fun h => ck_n v k _ _ hv (by omega) hx hq g p _ _ ⟨fun _ => ⟨_, ⟨by omega, hy⟩, fun h => absurd h hg, fun _ => n1 h⟩, fun _ => n1 h⟩, fun h => ck_n v k _ _ hv (by omega) hx hq g p _ _ ⟨fun _ => ⟨_, ⟨by omega, hy⟩, fun h => absurd h hg, fun _ => n2 h⟩, fun _ => n2 h⟩⟩
        · have hn0 : (k == 0) = true := by simp; omega
          have e2 : okAt v k = true := by simp only [okAt, hx, hq, hn0, hd, Bool.true_and, Bool.true_or, Bool.not_false, Bool.and_true]
          rw [e2, Bool.true_and]
          exact ⟨fun h => ck_n v k _ _ hv (by omega) hx hq g p _ _ ⟨fun h => absurd h h0, fun _ => n1 h⟩, fun h => ck_n v k _ _ hv (by omega) hx hq g p _ _ ⟨fun h => absurd h h0, fun _ => n2 h⟩⟩

theorem check_y (v : List BE) (h0 : RunL P G none 0 (loopAt P 7 0) (ckSt v 0 []) (.exit 0) (ckO v)) (h : True) : CallC P G 7 [bes v] [] (AOut.ret (int 0)) [] := by
  have _ := h
  exact callC_of [kv 8 (show Am.Sub (int (↑(List.length (encs v)) : Int)) (int (↑(List.length v) : Int)) from (Sub.of_eq (by simp only [Go.Bd.encs_length]))), kl [1, 2, 4, 5, 6, 10, 11, 12, 13, 14, 15, 16, 17, 18, 19, 20, 21, 22, 23, 24, 25, 26, 27, 28, 29, 30, 31, 32, 33, 34, 35, 36, 37, 38, 39, 40] 1 (@h0 )] (by kernel_rfl)

theorem check_n (v : List BE) (h0 : RunL P G none 0 (loopAt P 7 0) (ckSt v 0 []) .ret (ckR 140)) (h : True) : CallC P G 7 [bes v] [] (AOut.ret (int 140)) [] := by
  have _ := h
  exact callC_of [kv 8 (show Am.Sub (int (↑(List.length (encs v)) : Int)) (int (↑(List.length v) : Int)) from (Sub.of_eq (by simp only [Go.Bd.encs_length]))), kl [1, 2, 4, 5, 6, 10, 11, 12, 13, 14, 15, 16, 17, 18, 19, 20, 21, 22, 23, 24, 25, 26, 27, 28, 29, 30, 31, 32, 33, 34, 35, 36, 37, 38, 39, 40] 1 (@h0 )] (by kernel_rfl)

theorem check_c (v : List BE) (hv : v.length ≤ 1000000000) : CallC P G 7 [bes v] [] (.ret (int (chkE v))) [] := by
  unfold chkE
  obtain ⟨h1, h2⟩ := ck_loop v hv v.length 0 (by omega) (by omega) (by simp)
  rw [List.take_zero] at h1 h2
  cases hb : okB v with
  | true => exact check_y v (h1 hb) trivial
  | false => exact check_n v (h2 hb) trivial

end Go.Bd

/- BINDS, 19: maps.Keys; the loop of Keys; slices.Sorted of what maps.Keys hands back. -/
namespace Go.Bd
set_option maxRecDepth 100000
set_option linter.unusedSimpArgs false
set_option linter.unusedVariables false
open Go Go.Am Go.Proofs Go.Seat

def kyE (l : List ByteArray) : List (Value × AV) := l.map fun k => (.string k, bool true)
theorem ky_ids (l : List ByteArray) : ∀ e ∈ kyE l, AV.idsLt 1 e.2 = true := by
  intro e he
  obtain ⟨x, _, rfl⟩ := List.mem_map.1 he
  rfl
theorem ky_ids2 (l : List ByteArray) : ∀ e ∈ kyE l, AV.idsIn [] e.2 = true := by
  intro e he
  obtain ⟨x, _, rfl⟩ := List.mem_map.1 he
  rfl
def kSt (v : List BE) (i : Nat) (l : List ByteArray) : St := { env := slots 20 [(3, .mp 0), (7, bes v), (8, int v.length), (9, int i)], H := [.map (kyE l)] }
def kX (l : List ByteArray) : St := { env := slots 20 [(3, .mp 0)], H := [.map (kyE l)] }

theorem k_n (v : List BE) (i : Nat) (x : BE) (l l' : List ByteArray) (hv : v.length ≤ 1000000000) (hi : (i : Int) < (v.length : Int)) (hx : v[i]? = some x) (hp : MapPut P 9 (kyE l) (.string x.ky) (bool true) (kyE l')) (ex : AEx) (s : St) (h : RunL P G none 0 (loopAt P 15 0) (St.mk (slots 20 [(3, AV.mp 0), (7, AV.sl 5 false (encs v)), (8, int (↑(List.length v) : Int)), (9, int (↑(i + 1) : Int))]) [AObj.map (kyE l')] []) ex s) : RunL P G none 0 (loopAt P 15 0) (kSt v i l) ex s := by
  exact loop_next [kt (show decide ((↑i : Int) < (↑(List.length v) : Int)) = true from (decide_eq_true (by omega))), ko (Orc.elem (enc x)), ko (Orc.mput (kyE l')), kp (show (0 : Int) ≤ (↑i : Int) ∧ (encs v)[Int.toNat (↑i : Int)]? = some (enc x) from (el_nat hx)), kp (@hp ), kv 16 (show Am.Sub (int (IntKind.wrap IntKind.i64 ((↑i : Int) + 1))) (int (↑(i + 1) : Int)) from (Sub.of_wrap (by omega) (by omega) (by omega))), kp (show ∀ (e : Value × AV), e ∈ kyE l' → AV.idsLt 1 (Prod.snd e) = true from (Go.Bd.ky_ids _))] (others 20 [3, 7, 8, 9]) 1 h (by kernel_rfl)

theorem k_e (v : List BE) (i : Nat) (l : List ByteArray) (hi : ¬ (i : Int) < (v.length : Int)) (h : True) : RunL P G none 0 (loopAt P 15 0) (kSt v i l) (AEx.exit 0) (kX l) := by
  have _ := h
  exact loop_exit [kf (show decide ((↑i : Int) < (↑(List.length v) : Int)) = false from (decide_eq_false (by omega)))] (others 20 [3]) 1 (by kernel_rfl)

theorem mk_w (l : List ByteArray) (h : True) : CallC P G 34 [AV.mp 0] [AObj.map (kyE l)] (AOut.ret (AV.fn (Fn.func 51) [] [AV.ptr 1 0])) [AObj.map (kyE l), AObj.box [AV.mp 0]] := by
  have _ := h
  exact callC_of [] (by kernel_rfl)

theorem keys_w (v : List BE) (l ys : List ByteArray) (h0 : CallC P G 34 [.mp 0] [.map (kyE l)] (.ret (.fn (.func 51) [] [.ptr 1 0])) [.map (kyE l), .box [.mp 0]]) (h1 : CallC P G 33 [.fn (.func 51) [] [.ptr 1 0]] [.map (kyE l), .box [.mp 0]] (.ret (strs ys)) [.gone, .gone]) (hL : RunL P G none 0 (loopAt P 15 0) (kSt v 0 []) (.exit 0) (kX l)) (h : True) : CallC P G 15 [bes v] [] (AOut.ret (strs ys)) [] := by
  have hz3 : ∀ (e : Value × AV), e ∈ kyE l → AV.idsIn [] (Prod.snd e) = true := (Go.Bd.ky_ids2 _)
  have _ := h
  exact callC_of [kv 8 (show Am.Sub (int (↑(List.length (encs v)) : Int)) (int (↑(List.length v) : Int)) from (Sub.of_eq (by simp only [Go.Bd.encs_length]))), kl [0, 1, 2, 4, 5, 6, 10, 11, 12, 13, 14, 15, 16, 17, 18, 19] 1 (@hL ), kc [0] (@h0 ), kp hz3, kp hz3, kc [0, 1] (@h1 ), kp hz3] (by kernel_rfl)

end Go.Bd

/- BINDS, 20: Keys. -/
namespace Go.Bd
set_option maxRecDepth 100000
set_option linter.unusedSimpArgs false
set_option linter.unusedVariables false
open Go Go.Am Go.Proofs Go.Seat Go.Lib Go.Shelf Go.RowKit Go.Sort Go.Maps

theorem keyS {k : ByteArray} (h : k.size ≤ maxLen) : ∃ l, keyOf P 9 (.string k) = some l := ⟨_, WideMaps.keyOf_string_mk Tryd.underlying9 h⟩
instance memK (k : ByteArray) (l : List ByteArray) : Decidable (k ∈ l) := decidable_of_iff ((l.any fun a => decide (a = k)) = true) (by
  rw [List.any_eq_true]
  constructor
  · rintro ⟨a, h, e⟩; exact of_decide_eq_true e ▸ h
  · exact fun h => ⟨k, h, decide_eq_true rfl⟩)
def addK (l : List ByteArray) (k : ByteArray) : List ByteArray := if k ∈ l then l else l ++ [k]
def keysOf : List ByteArray → List BE → List ByteArray
  | l, [] => l
  | l, b :: t => keysOf (addK l b.ky) t
theorem ky_keys {l : List ByteArray} (h : ∀ k ∈ l, k.size ≤ maxLen) : ∀ e ∈ kyE l, ∃ q, keyOf P 9 e.1 = some q := fun e he => by
  obtain ⟨k, hk, rfl⟩ := List.mem_map.1 he
  exact keyS (h k hk)
theorem addK_put {l : List ByteArray} {k : ByteArray} (h : ∀ k ∈ l, k.size ≤ maxLen) (hk : k.size ≤ maxLen) : MapPut P 9 (kyE l) (.string k) (bool true) (kyE (addK l k)) := by
  refine ⟨string_keyed Tryd.underlying9, keyS hk, ky_keys h, ?_⟩
  unfold addK
  by_cases hm : k ∈ l
  · rw [if_pos hm]
    obtain ⟨us, bs, e⟩ := List.append_of_mem hm
    exact .inl ⟨kyE us, kyE bs, bool true, by rw [e]; simp [kyE], by rw [e]; simp [kyE]⟩
  · rw [if_neg hm]
    refine .inr ⟨fun e he hq => ?_, by simp [kyE]⟩
    obtain ⟨q, hq', rfl⟩ := List.mem_map.1 he
    injection hq with hq
    exact hm (hq ▸ hq')
theorem addK_nodup {l : List ByteArray} (h : l.Nodup) (k : ByteArray) : (addK l k).Nodup := by
  unfold addK
  by_cases hm : k ∈ l
  · rw [if_pos hm]; exact h
  · rw [if_neg hm, List.nodup_append]
    exact ⟨h, by simp, fun a ha b hb e => hm (by rw [List.mem_singleton.1 hb] at e; exact e ▸ ha)⟩
theorem addK_mem {l : List ByteArray} {k a : ByteArray} : a ∈ addK l k ↔ a ∈ l ∨ a = k := by
  unfold addK
  by_cases hm : k ∈ l
  · rw [if_pos hm]; exact ⟨.inl, fun h => h.elim id fun e => e ▸ hm⟩
  · rw [if_neg hm]; simp
theorem addK_len (l : List ByteArray) (k : ByteArray) : (addK l k).length ≤ l.length + 1 := by
  unfold addK
  split
  · omega
  · simp
theorem keysOf_nodup : ∀ (v : List BE) {l : List ByteArray}, l.Nodup → (keysOf l v).Nodup
  | [], _, h => h
  | b :: t, _, h => keysOf_nodup t (addK_nodup h b.ky)
theorem keysOf_mem : ∀ (v : List BE) {l : List ByteArray} {a : ByteArray}, a ∈ keysOf l v ↔ a ∈ l ∨ ∃ b ∈ v, b.ky = a
  | [], _, _ => by simp [keysOf]
  | b :: t, l, a => by
    rw [keysOf, keysOf_mem t, addK_mem]
    simp only [List.mem_cons, exists_eq_or_imp]
    constructor
    · rintro ((h | h) | h)
      · exact .inl h
      · exact .inr (.inl h.symm)
      · exact .inr (.inr h)
    · rintro (h | h | h)
      · exact .inl (.inl h)
      · exact .inl (.inr h.symm)
      · exact .inr h
theorem keysOf_len : ∀ (v : List BE) (l : List ByteArray), (keysOf l v).length ≤ l.length + v.length
  | [], l => Nat.le_refl _
  | b :: t, l => by
    have h1 := addK_len l b.ky
    have h2 := keysOf_len t (addK l b.ky)
    rw [keysOf, List.length_cons]
    omega

theorem k_loop (v : List BE) (hv : v.length ≤ 10000000) (hk : ∀ b ∈ v, b.ky.size ≤ maxLen) : ∀ n i (l : List ByteArray), v.length - i = n → i ≤ v.length → (∀ k ∈ l, k.size ≤ maxLen) → RunL P G none 0 (loopAt P 15 0) (kSt v i l) (.exit 0) (kX (keysOf l (v.drop i))) := by
  intro n
  induction n with
  | zero =>
    intro i l hn hi _
    rw [List.drop_eq_nil_of_le (by omega)]
    exact k_e v i l (by omega) trivial
  | succ n ih =>
    intro i l hn hi hl
    have hlt : i < v.length := by omega
    have hx : v[i]? = some v[i] := List.getElem?_eq_getElem hlt
    have hki := hk v[i] (List.getElem_mem hlt)
    rw [List.drop_eq_getElem_cons hlt, keysOf]
    refine k_n v i _ l _ (by omega) (by omega) hx (addK_put hl hki) _ _ (ih (i + 1) _ (by omega) (by omega) fun k hm => ?_)
    rcases addK_mem.1 hm with h | h
    · exact hl k h
    · exact h ▸ hki

/-- slices.Sort's two contracts at this dump, at the fence that asks nothing. -/
theorem sortsS (m : Nat) : AnyZ.SortsIn Tryd.prog Tryd.sortedS_ren Fence.wide m :=
  ⟨fun blk off cap ss W hH hblk hsz => callsIn_wide.2 (AnyM.slices_Sort_string Tryd.sortS blk off cap ss W hH hblk hsz),
   fun p cap W => callsIn_wide.2 (AnyM.slices_Sort_string_none Tryd.sortS p cap W)⟩

def R0 : Value → Option (DataW Nat × List MemPlace) := fun _ => some (.nil, [])
theorem ents_keys {ents : List MapEntry} {l : List ByteArray} (h : ents.map (·.key) = (kyE l).map (·.1)) : ents.map (·.key) = l.map Value.string := by rw [h]; simp [kyE]
theorem rd_ent {l : List ByteArray} (hl : ∀ k ∈ l, k.size ≤ maxLen) {x : MapEntry} (hx : ∃ k ∈ l, x.key = .string k) : ∃ y, WideElems.rd P 9 R0 x = some y := by
  obtain ⟨k, hk, e⟩ := hx
  obtain ⟨key, val, born⟩ := x
  simp only at e; subst e
  exact ⟨_, WideElems.rd_mk (WideMaps.keyOf_string_mk Tryd.underlying9 (hl k hk)) (yv := (.nil, [])) rfl⟩
theorem rg_ents {l : List ByteArray} (hl : ∀ k ∈ l, k.size ≤ maxLen) : ∀ {ents : List MapEntry}, ents.map (·.key) = l.map Value.string → (ents.map (WideElems.rg P 9 R0)).map (fun p => strOf p.1) = l.map (fun k => k.data.toList) := by
  induction l with
  | nil => intro ents h; cases ents <;> simp at h ⊢
  | cons k t ih =>
    intro ents h
    cases ents with
    | nil => simp at h
    | cons x r =>
      obtain ⟨key, val, born⟩ := x
      simp only [List.map_cons, List.cons.injEq] at h
      obtain ⟨h1, h2⟩ := h
      subst h1
      have e := WideElems.rg_of (WideElems.rd_mk (born := born) (val := val) (R := R0) (WideMaps.keyOf_string_mk (P := P) Tryd.underlying9 (hl k (List.mem_cons_self ..))) (yv := (.nil, [])) rfl)
      rw [List.map_cons, List.map_cons, List.map_cons, e, ih (fun a ha => hl a (List.mem_cons_of_mem _ ha)) h2]
      rfl
theorem encStr_toList (k : ByteArray) : encStr k.data.toList = .string k := by
  simp [encStr]
theorem ltS_data (a b : ByteArray) : ltS a b = true ↔ a.data.toList < b.data.toList := by
  rw [ltS_iff, ByteArray.toList_eq, ByteArray.toList_eq]
theorem merged {l ys : List ByteArray} {ss : List (List UInt8)} (hp : ys.Perm l) (hs : ys.Pairwise fun a b => ltS a b = true) (h : ss.Perm (l.map fun k => k.data.toList)) : ss.mergeSort (fun x y => decide (x ≤ y)) = ys.map fun k => k.data.toList := by
  have h1 : (ss.mergeSort (fun x y => decide (x ≤ y))).Perm (ys.map fun k => k.data.toList) := (List.mergeSort_perm ..).trans (h.trans (hp.map _).symm)
  refine h1.eq_of_pairwise (le := fun a b => a ≤ b) (fun a b _ _ k1 k2 => List.le_antisymm k1 k2) ?_ ?_
  · have := List.pairwise_mergeSort (le := fun x y : List UInt8 => decide (x ≤ y)) (fun a b c k1 k2 => by
      rw [decide_eq_true_iff] at *; exact List.le_trans k1 k2) (fun a b => by
      rw [Bool.or_eq_true, decide_eq_true_iff, decide_eq_true_iff]; exact List.le_total a b) ss
    exact this.imp fun k => of_decide_eq_true k
  · rw [List.pairwise_map]
    exact hs.imp fun {a b} k => List.le_of_lt ((ltS_data a b).1 k)

set_option maxHeartbeats 1000000 in
theorem sorted_c (l ys : List ByteArray) (hl : ∀ k ∈ l, k.size ≤ maxLen) (hlen : l.length ≤ 1000000) (hp : ys.Perm l) (hs : ys.Pairwise fun a b => ltS a b = true) :
    CallC P G 33 [.fn (.func 51) [] [.ptr 1 0]] [.map (kyE l), .box [.mp 0]] (.ret (strs ys)) [.gone, .gone] := by
  intro V vs hH hG hr
  rw [callsIn_wide (n := 0), ← callsIn_wide (n := 5)]
  obtain ⟨v0, rfl⟩ : ∃ v0, vs = [v0] := by
    have := hr.1
    match vs, this with
    | [a], _ => exact ⟨a, rfl⟩
  obtain ⟨us, ws, rfl, hu, hw⟩ := rep_fn hr.head
  obtain rfl : us = [] := List.eq_nil_of_length_eq_zero hu.1
  obtain ⟨q, rfl⟩ : ∃ q, ws = [q] := by
    have := hw.1
    match ws, this with
    | [a], _ => exact ⟨a, rfl⟩
  obtain ⟨_, rfl⟩ := rep_ptr hw.head
  have hHl : V.H.length = 2 := by rw [hH]; rfl
  have h0 : V.H[0]? = some (.map (kyE l)) := by rw [hH]; rfl
  have h1 : V.H[1]? = some (.box [.mp 0]) := by rw [hH]; rfl
  obtain ⟨ents, clock, hheap, hkeys, hnd, hborn, hclk, hvals⟩ := hG.obj 0 _ h0
  obtain ⟨tb, cs, hbox, hcs⟩ := hG.obj 1 _ h1
  obtain ⟨c0, rfl⟩ : ∃ c0, cs = [c0] := by
    have := hcs.1
    match cs, this with
    | [a], _ => exact ⟨a, rfl⟩
  have hc0 : c0 = .map (some (V.ρ 0)) := (rep_mp hcs.head).2
  subst hc0
  have hk := ents_keys hkeys
  have hlt0 : V.ρ 0 < V.w.heap.size := hG.lt 0 (by omega)
  have hlt1 : V.ρ 1 < V.w.heap.size := hG.lt 1 (by omega)
  have hel : ents.length = l.length := by have := congrArg List.length hk; simpa using this
  have hmem : ∀ x ∈ ents, ∃ k ∈ l, x.key = .string k := fun x hx => by
    have : x.key ∈ ents.map (·.key) := List.mem_map_of_mem hx
    rw [hk] at this
    obtain ⟨k, hk1, hk2⟩ := List.mem_map.1 this
    exact ⟨k, hk1, hk2.symm⟩
  have hown : V.w.ownsMap Tryd.prog 9 R0 (V.ρ 0) ents.length (.map ((ents.map (WideElems.rg P 9 R0)).foldr DataW.insert [])) := by
    refine ⟨ents.toArray, clock, hheap, ⟨by simp only [List.size_toArray]; unfold maxLen; omega, ⟨fun x hx => ?_, ?_, ?_⟩, fun x hx => rd_ent hl (hmem x (by simpa using hx))⟩, by simp, by simp⟩
    · have : x.born ∈ ents.map (·.born) := List.mem_map_of_mem (by simpa using hx)
      rw [hborn] at this
      rw [hclk]; exact List.mem_range.1 this
    · rw [show ents.toArray.toList = ents from rfl, hborn]; exact List.nodup_range
    · rw [show ents.toArray.toList = ents from rfl, hkeys]; exact hnd
  have hD : strKeys (.map ((ents.map (WideElems.rg P 9 R0)).foldr DataW.insert [])) = ((ents.map (WideElems.rg P 9 R0)).foldr DataW.insert []).map fun p => strOf p.1 := rfl
  have hperm : (strKeys (.map ((ents.map (WideElems.rg P 9 R0)).foldr DataW.insert []))).Perm (l.map fun k => k.data.toList) := by
    rw [hD, ← rg_ents hl hk]
    exact (WideShapes.sorted_perm _).map _
  have hsize : Maps.size (.map ((ents.map (WideElems.rg P 9 R0)).foldr DataW.insert [])) = l.length := by
    rw [Maps.size_eq, (WideShapes.sorted_perm _).length_eq, List.length_map]; exact hel
  have hseq : SeqGives Fence.wide 2 Tryd.prog 51 #[.pointer (some ⟨V.ρ 1, 0, none⟩)] encStr (fun ss => ss.Perm (strKeys (.map ((ents.map (WideElems.rg P 9 R0)).foldr DataW.insert [])))) (Maps.size (.map ((ents.map (WideElems.rg P 9 R0)).foldr DataW.insert []))) V.w :=
    AnyZ.keys_gives (ρ := Tryd.keysS_ren) { Tryd.keysS with } Fence.wide _ trivial rfl (by omega) (V.ρ 1) (V.ρ 0) _ _ V.w hlt1 (by simp [World.cell?, hbox]) hown
  have hcon := AnyZ.sorted_in Tryd.sortedS Fence.wide 5 trivial trivial trivial trivial rfl (by omega) (sortsS _) (enters_of Tryd.func50 (by kernel_rfl) rfl) 51 #[.pointer (some ⟨V.ρ 1, 0, none⟩)] trivial (enters_of Tryd.func51 (by kernel_rfl) rfl) _ _ (by rw [hsize]; unfold maxLen; omega) (by rw [hsize]; omega) V.w hseq
  refine hcon.mono fun e w' he => ?_
  obtain ⟨v, ss, rfl, hss, hrow, _, hb⟩ := he
  rw [merged hp hs (hss.trans hperm)] at hrow
  have hss2 : ss.length = ys.length := by
    have h1 := (hss.trans hperm).length_eq
    have h2 := hp.length_eq
    simp at h1; omega
  have hst : Step V { w := w', M := fun x => V.M x ∧ x < V.w.heap.size, H := [.gone, .gone], ρ := V.ρ } := {
    os := hb.os
    tape := hb.tape
    output := hb.output
    size := hb.size
    drawn := trivial
    keep := fun b hlt _ => ⟨hb.block b hlt, ⟨fun h => h.1, fun h => ⟨h, hlt⟩⟩⟩
    data := fun b hlt hn => ⟨hb.block b hlt, fun h => hn h.1⟩
    hlen := by rw [hHl]; exact Nat.le_refl _
    fresh := fun id hid => .inl ⟨by rw [hHl]; exact hid, rfl⟩
    obj := fun id hid => by
      unfold ObjStep
      rw [hH]
      match id, hid with
      | 0, _ => exact rfl
      | 1, _ => exact rfl
      | n + 2, hid => omega }
  refine ⟨_, rfl, hst, ?_, rfl, ?_⟩
  · exact {
      lt := fun id hid => by
        have : id < 2 := hid
        exact Nat.lt_of_lt_of_le (hG.lt id (by omega)) hb.size
      obj := fun id o ho => by
        match id, ho with
        | 0, ho => injection ho with ho; subst ho; exact trivial
        | 1, ho => injection ho with ho; subst ho; exact trivial
      inj := fun i j hi hj e => hG.inj i j (by have : i < 2 := hi; omega) (by have : j < 2 := hj; omega) e
      mutb := fun id o ho hop => by
        match id, ho with
        | 0, ho => injection ho with ho; subst ho; cases hop
        | 1, ho => injection ho with ho; subst ho; cases hop
      glob := hG.glob_step hst }
  · rcases hrow.2 with ⟨rfl, hz⟩ | ⟨g, cap, cur, rfl, hbase, hg, hncap, hcapm, hcsz, hcur⟩
    · have : ys = [] := List.eq_nil_of_length_eq_zero (by omega)
      subst this
      exact Sub.nil 1 _ _ (.pure _ _ (.lit _))
    · rw [hss2]
      have hcell : ∀ k (hk : k < ys.length), cur[k]? = some (.string ys[k]) := fun k hk => by
        have : (cur.toList.take (ss.length * 1))[k]? = some (.string ys[k]) := by
          rw [hcur, List.getElem?_map, List.getElem?_map, List.getElem?_eq_getElem hk, Option.map_some, Option.map_some, encStr_toList]
        rw [List.getElem?_take] at this
        split at this
        · simpa using this
        · cases this
      have key : PRep w' (fun x => V.M x ∧ x < V.w.heap.size) (.sl 1 false (sts ys)) (.slice (some ⟨g, 0, none⟩) (sts ys).length cap) :=
        .sl 1 false (sts ys) (some ⟨g, 0, none⟩) cap g 0 (fun k j => ((ys[k]?).map Value.string).getD undef) (fun _ => rfl) (fun _ _ h => by have := h.2; omega) (by rw [sts_length]; omega) (fun h => by cases h)
          (fun x hx => by obtain ⟨b, _, rfl⟩ := List.mem_map.1 hx; rfl)
          (fun k j hk hj => by
            rw [sts_length] at hk
            have : j = 0 := by omega
            subst this
            rw [List.getElem?_eq_getElem hk, Nat.zero_add, Nat.mul_one, Nat.add_zero]
            simp only [World.cell?, hg]
            exact hcell k hk)
          (fun k j hk hj => by
            rw [sts_length] at hk
            rw [List.getElem?_eq_getElem hk]; rfl)
          (fun k j hk hj => by
            rw [sts_length] at hk
            have : j = 0 := by omega
            subst this
            rw [List.getElem?_eq_getElem hk]
            have e : (sts ys).getD k [] = st1 ys[k] := by rw [List.getD_eq_getElem?_getD]; simp [sts, List.getElem?_eq_getElem hk]
            rw [e]
            exact .lit _)
      rw [sts_length] at key
      exact Rep.pure _ _ key

theorem keys_c (v : List BE) (ys : List ByteArray) (hv : v.length ≤ 1000) (hk : ∀ b ∈ v, b.ky.size ≤ maxLen) (hp : ys.Perm (keysOf [] v)) (hs : ys.Pairwise fun a b => ltS a b = true) : CallC P G 15 [bes v] [] (.ret (strs ys)) [] := by
  have hL := k_loop v (by omega) hk _ 0 [] rfl (by omega) (by simp)
  rw [List.drop_zero] at hL
  have hlen := keysOf_len v []
  have hl : ∀ k ∈ keysOf [] v, k.size ≤ maxLen := fun k hm => by
    rcases (keysOf_mem v).1 hm with h | ⟨b, hb, rfl⟩
    · cases h
    · exact hk b hb
  exact keys_w v (keysOf [] v) ys (mk_w _ trivial) (sorted_c _ ys hl (by simp at hlen; omega) hp hs) hL trivial
end Go.Bd

/- BINDS, 4: Few, few, Same. -/
namespace Go.Bd
set_option maxRecDepth 100000
set_option linter.unusedSimpArgs false
set_option linter.unusedVariables false
open Go Go.Am Go.Proofs Go.Seat

theorem nilT1 : Sub (.lit (.slice none 0 0)) (.sl 1 true []) := fun V v h => by
  rw [rep_lit h]
  exact .pure _ _ (.sl 1 true [] none 0 0 0 (fun _ _ => undef) (fun h => absurd rfl h) (fun h => absurd rfl h) (Nat.le_refl _) (fun _ => rfl) (fun x hx => by cases hx) (fun k j hk => absurd hk (Nat.not_lt_zero _)) (fun k j hk => absurd hk (Nat.not_lt_zero _)) fun k j hk => absurd hk (Nat.not_lt_zero _))
/-! Few -/
def smallB (b : BE) : Bool := decide ((b.ky.size : Int) ≤ 70) && decide ((b.vl.size : Int) ≤ 5000)
def smallN (v : List BE) : Nat → Nat → Bool
  | 0, _ => true
  | n + 1, k => match v[k]? with
    | some x => smallB x && smallN v n (k + 1)
    | none => true
theorem smallN_all (v : List BE) : ∀ n k, v.length - k = n → k ≤ v.length → smallN v n k = (v.drop k).all smallB
  | 0, k, hn, hk => by rw [List.drop_eq_nil_of_le (by omega)]; rfl
  | n + 1, k, hn, hk => by
    have h : k < v.length := by omega
    rw [smallN, List.getElem?_eq_getElem h, List.drop_eq_getElem_cons h, List.all_cons, smallN_all v n (k + 1) (by omega) (by omega)]
def fewB (v : List BE) : Bool := v.all smallB && decide ((v.length : Int) ≤ 20)

def rfSt (v : List BE) (k : Nat) : St := { env := slots 29 [(0, bes v), (2, bool false), (3, int k)], H := [] }

theorem rf_w (v : List BE) (k : Nat) (hv : v.length ≤ 9223372036854775807) (ex : AEx) (o : Bool) (h : ((((↑k : Int) < (↑(List.length v) : Int)) → (∃ x2 : BE, (v[k]? = some x2) ∧ ((((↑(ByteArray.size (BE.ky x2)) : Int) > (70 : Int)) → (AEx.ret = ex) ∧ ((false) = (o))) ∧ ((¬(↑(ByteArray.size (BE.ky x2)) : Int) > (70 : Int)) → ((((↑(ByteArray.size (BE.vl x2)) : Int) > (5000 : Int)) → (AEx.ret = ex) ∧ ((false) = (o))) ∧ ((¬(↑(ByteArray.size (BE.vl x2)) : Int) > (5000 : Int)) → RunL P G none 0 (loopAt P 6 0) (St.mk (slots 29 [(0, AV.sl 5 false (encs v)), (2, Am.bool false), (3, int (↑(k + 1) : Int))]) [] []) ex (St.mk (slots 29 [(0, bes v), (2, Am.bool o)]) [] []))))))) ∧ ((¬(↑k : Int) < (↑(List.length v) : Int)) → (AEx.exit 0 = ex) ∧ ((false) = (o))))) : RunL P G none 0 (loopAt P 6 0) (rfSt v k) ex (St.mk (slots 29 [(0, bes v), (2, Am.bool o)]) [] []) := by
  have hz0 : Am.Sub (int (↑(List.length (encs v)) : Int)) (int (↑(List.length v) : Int)) := (Sub.of_eq (by simp only [Go.Bd.encs_length]))
  by_cases c1 : ((↑k : Int) < (↑(List.length v) : Int))
  · have h := h.1 c1
    obtain ⟨x2, o3, h⟩ := h
    have hz1 : (0 : Int) ≤ (↑k : Int) ∧ (encs v)[Int.toNat (↑k : Int)]? = some (enc x2) := (el_nat o3)
    by_cases c4 : ((↑(ByteArray.size (BE.ky x2)) : Int) > (70 : Int))
    · have h := h.1 c4
      obtain ⟨eX, e1⟩ := h
      exact RunL.to ((show RunL P G none 0 (loopAt P 6 0) (rfSt v k) AEx.ret (St.mk (slots 29 [(0, AV.sl 5 false (encs v)), (2, Am.bool false)]) [] []) from loop_exit [kv 6 hz0, kt (decide_eq_true c1), ko (Orc.elem (enc x2)), kp hz1, kt (decide_eq_true c4), kt (Eq.refl true)] (others 29 [0, 2]) 0 (by kernel_rfl))) eX (SubS.slots ⟨rfl, Sub.refl _, rfl, (Sub.bool_eq e1), trivial⟩)
    · have h := h.2 c4
      by_cases c5 : ((↑(ByteArray.size (BE.vl x2)) : Int) > (5000 : Int))
      · have h := h.1 c5
        obtain ⟨eX, e1⟩ := h
        exact RunL.to ((show RunL P G none 0 (loopAt P 6 0) (rfSt v k) AEx.ret (St.mk (slots 29 [(0, AV.sl 5 false (encs v)), (2, Am.bool false)]) [] []) from loop_exit [kv 6 hz0, kt (decide_eq_true c1), ko (Orc.elem (enc x2)), kp hz1, kf (decide_eq_false c4), ko (Orc.elem (enc x2)), kp hz1, kt (decide_eq_true c5)] (others 29 [0, 2]) 0 (by kernel_rfl))) eX (SubS.slots ⟨rfl, Sub.refl _, rfl, (Sub.bool_eq e1), trivial⟩)
      · have h := h.2 c5
        exact loop_next [kv 6 hz0, kt (decide_eq_true c1), ko (Orc.elem (enc x2)), kp hz1, kf (decide_eq_false c4), ko (Orc.elem (enc x2)), kp hz1, kf (decide_eq_false c5), kv 9 (show Am.Sub (int (IntKind.wrap IntKind.i64 ((↑k : Int) + 1))) (int (↑(k + 1) : Int)) from (Sub.of_wrap (by omega) (by omega) (by omega)))] (others 29 [0, 2, 3]) 0 h (by kernel_rfl)
  · have h := h.2 c1
    obtain ⟨eX, e1⟩ := h
    exact RunL.to ((show RunL P G none 0 (loopAt P 6 0) (rfSt v k) (AEx.exit 0) (St.mk (slots 29 [(0, AV.sl 5 false (encs v)), (2, Am.bool false)]) [] []) from loop_exit [kv 6 hz0, kf (decide_eq_false c1)] (others 29 [0, 2]) 0 (by kernel_rfl))) eX (SubS.slots ⟨rfl, Sub.refl _, rfl, (Sub.bool_eq e1), trivial⟩)

theorem rf_loop (v : List BE) (hv : v.length ≤ 9223372036854775807) : ∀ n k, v.length - k = n → k ≤ v.length → RunL P G none 0 (loopAt P 6 0) (rfSt v k) (if smallN v n k = true then .exit 0 else .ret) { env := slots 29 [(0, bes v), (2, bool false)], H := [] } := by
  intro n
  induction n with
  | zero => intro k hn hk; exact rf_w v k hv _ _ ⟨fun h => absurd h (by omega), fun _ => ⟨rfl, rfl⟩⟩
  | succ n ih =>
    intro k hn hk
    have hlt : k < v.length := by omega
    have hx : v[k]? = some v[k] := List.getElem?_eq_getElem hlt
    have e : smallN v (n + 1) k = (smallB v[k] && smallN v n (k + 1)) := by rw [smallN, hx]
    have nx := ih (k + 1) (by omega) (by omega)
    refine rf_w v k hv _ _ ⟨fun h => ⟨v[k], hx, ⟨fun h1 => ?_, fun h1 => ⟨fun h2 => ?_, fun h2 => ?_⟩⟩⟩, fun h => absurd hlt (by omega)⟩
    · rw [e, show smallB v[k] = false by simp [smallB]; omega]; exact ⟨rfl, rfl⟩
    · rw [e, show smallB v[k] = false by simp [smallB]; omega]; exact ⟨rfl, rfl⟩
    · rw [e, show smallB v[k] = true by simp [smallB]; omega, Bool.true_and]; exact nx
theorem rf_run (v : List BE) (hv : v.length ≤ 9223372036854775807) : RunL P G none 0 (loopAt P 6 0) (rfSt v 0) (if v.all smallB = true then .exit 0 else .ret) { env := slots 29 [(0, bes v), (2, bool false)], H := [] } := by
  have := rf_loop v hv v.length 0 (by omega) (by omega)
  rw [smallN_all v v.length 0 (by omega) (by omega)] at this
  simpa using this

theorem rfew_w (v : List BE) (hv : v.length ≤ 9223372036854775807) (h : (((List.all v smallB = true) → (decide ((↑(List.length v) : Int) ≤ (20 : Int))) = (fewB v)) ∧ ((¬List.all v smallB = true) → (false) = (fewB v)))) : CallC P G 6 [bes v] [] (AOut.ret (Am.bool (fewB v))) [] := by
  by_cases c1 : (List.all v smallB = true)
  · have h := h.1 c1
    have e1 := h
    exact callC_out (Sub.bool_eq e1) [kl [1, 4, 5, 6, 7, 8, 9, 10, 11, 12, 13, 14, 15, 16, 17, 18, 19, 20, 21, 22, 23, 24, 25, 26, 27, 28] 0 (show RunL P G none 0 (loopAt P 6 0) (St.mk (slots 29 [(0, AV.sl 5 false (encs v)), (2, Am.bool false), (3, int 0)]) [] []) (AEx.exit 0) (St.mk (slots 29 [(0, AV.sl 5 false (encs v)), (2, Am.bool false)]) [] []) from (by have h0 := (@Go.Bd.rf_run (v) (by omega)); simp only [if_pos c1] at h0; exact h0)), kv 27 (show Am.Sub (int (↑(List.length (encs v)) : Int)) (int (↑(List.length v) : Int)) from (Sub.of_eq (by simp only [Go.Bd.encs_length])))] (by kernel_rfl)
  · have h := h.2 c1
    have e1 := h
    exact callC_out (Sub.bool_eq e1) [kl [1, 4, 5, 6, 7, 8, 9, 10, 11, 12, 13, 14, 15, 16, 17, 18, 19, 20, 21, 22, 23, 24, 25, 26, 27, 28] 0 (show RunL P G none 0 (loopAt P 6 0) (St.mk (slots 29 [(0, AV.sl 5 false (encs v)), (2, Am.bool false), (3, int 0)]) [] []) AEx.ret (St.mk (slots 29 [(0, AV.sl 5 false (encs v)), (2, Am.bool false)]) [] []) from (by have h0 := (@Go.Bd.rf_run (v) (by omega)); simp only [if_neg c1] at h0; exact h0))] (by kernel_rfl)

theorem rfew_c (v : List BE) (hv : v.length ≤ 9223372036854775807) : CallC P G 6 [bes v] [] (.ret (bool (fewB v))) [] := rfew_w v hv (by unfold fewB; grind)

/-! Same -/
theorem be_eq (a b : BE) : ((a.ky == b.ky && (a.dv == b.dv && (a.sq == b.sq && (a.tm == b.tm && a.vl == b.vl)))) = true) ↔ a = b := by
  rw [ba_beq, ba_beq]
  cases a; cases b
  simp [BE.mk.injEq]
/-- Loops over two lists: are they equal? -/
def eqN {α : Type} [DecidableEq α] (a b : List α) : Nat → Nat → Bool
  | 0, _ => true
  | n + 1, k => match a[k]?, b[k]? with
    | some x, some y => decide (x = y) && eqN a b n (k + 1)
    | _, _ => true
theorem eqN_iff {α : Type} [DecidableEq α] {a b : List α} (hl : a.length = b.length) : ∀ n k, a.length - k = n → k ≤ a.length → (eqN a b n k = true ↔ a.drop k = b.drop k)
  | 0, k, hn, hk => by
    have h1 : a.drop k = [] := List.drop_eq_nil_of_le (by omega)
    have h2 : b.drop k = [] := List.drop_eq_nil_of_le (by omega)
    simp [eqN, h1, h2]
  | n + 1, k, hn, hk => by
    have ha : k < a.length := by omega
    have hb : k < b.length := by omega
    rw [eqN, List.getElem?_eq_getElem ha, List.getElem?_eq_getElem hb, List.drop_eq_getElem_cons ha, List.drop_eq_getElem_cons hb]
    simp only [Bool.and_eq_true, decide_eq_true_eq, List.cons.injEq, eqN_iff hl n (k + 1) (by omega) (by omega)]
theorem eqN_all {α : Type} [DecidableEq α] {a b : List α} (hl : a.length = b.length) : eqN a b a.length 0 = decide (a = b) := by
  rw [Bool.eq_iff_iff, eqN_iff hl a.length 0 (by omega) (by omega)]; simp
theorem eqN_step {α : Type} [DecidableEq α] {a b : List α} {n k : Nat} {x y : α} (ha : a[k]? = some x) (hb : b[k]? = some y) : eqN a b (n + 1) k = (decide (x = y) && eqN a b n (k + 1)) := by rw [eqN, ha, hb]

def rsSt (a b : List BE) (k : Nat) : St := { env := slots 26 [(0, bes a), (1, bes b), (4, bool false), (5, int k)], H := [] }

theorem rs_w (a b : List BE) (k : Nat) (hl : a.length = b.length) (hv : b.length ≤ 1000000000) (ex : AEx) (o : Bool) (h : ((((↑k : Int) < (↑(List.length a) : Int)) → (∃ x2 : BE, (a[k]? = some x2) ∧ (∃ x4 : BE, (b[k]? = some x4) ∧ ((((BE.ky x2 == BE.ky x4 && (BE.dv x2 == BE.dv x4 && (BE.sq x2 == BE.sq x4 && (BE.tm x2 == BE.tm x4 && BE.vl x2 == BE.vl x4)))) = true) → RunL P G none 0 (loopAt P 11 0) (St.mk (slots 26 [(0, AV.sl 5 false (encs a)), (1, AV.sl 5 false (encs b)), (4, Am.bool false), (5, int (↑(k + 1) : Int))]) [] []) ex (St.mk (slots 26 [(4, Am.bool o)]) [] [])) ∧ (((BE.ky x2 == BE.ky x4 && (BE.dv x2 == BE.dv x4 && (BE.sq x2 == BE.sq x4 && (BE.tm x2 == BE.tm x4 && BE.vl x2 == BE.vl x4)))) = false) → (AEx.ret = ex) ∧ ((false) = (o))))))) ∧ ((¬(↑k : Int) < (↑(List.length a) : Int)) → (AEx.exit 0 = ex) ∧ ((false) = (o))))) : RunL P G none 0 (loopAt P 11 0) (rsSt a b k) ex (St.mk (slots 26 [(4, Am.bool o)]) [] []) := by
  have hz0 : Am.Sub (int (↑(List.length (encs a)) : Int)) (int (↑(List.length a) : Int)) := (Sub.of_eq (by simp only [Go.Bd.encs_length]))
  by_cases c1 : ((↑k : Int) < (↑(List.length a) : Int))
  · have h := h.1 c1
    obtain ⟨x2, o3, h⟩ := h
    have hz1 : (0 : Int) ≤ (↑k : Int) ∧ (encs a)[Int.toNat (↑k : Int)]? = some (enc x2) := (el_nat o3)
    obtain ⟨x4, o5, h⟩ := h
    have hz2 : (0 : Int) ≤ (↑k : Int) ∧ (encs b)[Int.toNat (↑k : Int)]? = some (enc x4) := (el_nat o5)
    rcases Bool.eq_false_or_eq_true ((BE.ky x2 == BE.ky x4 && (BE.dv x2 == BE.dv x4 && (BE.sq x2 == BE.sq x4 && (BE.tm x2 == BE.tm x4 && BE.vl x2 == BE.vl x4))))) with c6 | c6
    · have h := h.1 c6
      exact loop_next [kv 13 hz0, kt (decide_eq_true c1), ko (Orc.elem (enc x2)), ko (Orc.elem (enc x4)), kp hz1, kp hz2, kf (show (!(BE.ky x2 == BE.ky x4 && (BE.dv x2 == BE.dv x4 && (BE.sq x2 == BE.sq x4 && (BE.tm x2 == BE.tm x4 && BE.vl x2 == BE.vl x4))))) = false from (congrArg Bool.not (c6))), kv 16 (show Am.Sub (int (IntKind.wrap IntKind.i64 ((↑k : Int) + 1))) (int (↑(k + 1) : Int)) from (Sub.of_wrap (by omega) (by omega) (by omega)))] (others 26 [0, 1, 4, 5]) 0 h (by kernel_rfl)
    · have h := h.2 c6
      obtain ⟨eX, e1⟩ := h
      exact RunL.to ((show RunL P G none 0 (loopAt P 11 0) (rsSt a b k) AEx.ret (St.mk (slots 26 [(4, Am.bool false)]) [] []) from loop_exit [kv 13 hz0, kt (decide_eq_true c1), ko (Orc.elem (enc x2)), ko (Orc.elem (enc x4)), kp hz1, kp hz2, kt (show (!(BE.ky x2 == BE.ky x4 && (BE.dv x2 == BE.dv x4 && (BE.sq x2 == BE.sq x4 && (BE.tm x2 == BE.tm x4 && BE.vl x2 == BE.vl x4))))) = true from (congrArg Bool.not (c6)))] (others 26 [4]) 0 (by kernel_rfl))) eX (SubS.slots ⟨rfl, (Sub.bool_eq e1), trivial⟩)
  · have h := h.2 c1
    obtain ⟨eX, e1⟩ := h
    exact RunL.to ((show RunL P G none 0 (loopAt P 11 0) (rsSt a b k) (AEx.exit 0) (St.mk (slots 26 [(4, Am.bool false)]) [] []) from loop_exit [kv 13 hz0, kf (decide_eq_false c1)] (others 26 [4]) 0 (by kernel_rfl))) eX (SubS.slots ⟨rfl, (Sub.bool_eq e1), trivial⟩)

theorem rs_loop (a b : List BE) (hl : a.length = b.length) (hv : b.length ≤ 1000000000) : ∀ n k, a.length - k = n → k ≤ a.length → RunL P G none 0 (loopAt P 11 0) (rsSt a b k) (if eqN a b n k = true then .exit 0 else .ret) { env := slots 26 [(4, bool false)], H := [] } := by
  intro n
  induction n with
  | zero => intro k hn hk; exact rs_w a b k hl hv _ _ ⟨fun h => absurd h (by omega), fun _ => ⟨rfl, rfl⟩⟩
  | succ n ih =>
    intro k hn hk
    have hlt : k < a.length := by omega
    have hx : a[k]? = some a[k] := List.getElem?_eq_getElem hlt
    have hy : b[k]? = some (b[k]'(by omega)) := List.getElem?_eq_getElem (by omega)
    refine rs_w a b k hl hv _ _ ⟨fun h => ⟨a[k], hx, b[k]'(by omega), hy, ⟨fun hq => ?_, fun hq => ?_⟩⟩, fun h => absurd hlt (by omega)⟩
    · rw [eqN_step hx hy, decide_eq_true ((be_eq _ _).1 hq), Bool.true_and]; exact ih (k + 1) (by omega) (by omega)
    · rw [eqN_step hx hy, decide_eq_false (fun e => by rw [(be_eq _ _).2 e] at hq; cases hq)]; exact ⟨rfl, rfl⟩
theorem rs_run (a b : List BE) (hl : a.length = b.length) (hv : b.length ≤ 1000000000) : RunL P G none 0 (loopAt P 11 0) (rsSt a b 0) (if a = b then .exit 0 else .ret) { env := slots 26 [(4, bool false)], H := [] } := by
  have := rs_loop a b hl hv a.length 0 (by omega) (by omega)
  rw [eqN_all hl] at this
  simpa using this

theorem rsame_w (a b : List BE) (ha : a.length ≤ 1000000000) (hb : b.length ≤ 1000000000) (h : ((((↑(List.length a) : Int) = (↑(List.length b) : Int)) → (((a = b) → (true) = (decide (a = b))) ∧ ((¬a = b) → (false) = (decide (a = b))))) ∧ ((¬(↑(List.length a) : Int) = (↑(List.length b) : Int)) → (false) = (decide (a = b))))) : CallC P G 11 [bes a, bes b] [] (AOut.ret (Am.bool (decide (a = b)))) [] := by
  have hz0 : Am.Sub (int (↑(List.length (encs a)) : Int)) (int (↑(List.length a) : Int)) := (Sub.of_eq (by simp only [Go.Bd.encs_length]))
  have hz1 : Am.Sub (int (↑(List.length (encs b)) : Int)) (int (↑(List.length b) : Int)) := (Sub.of_eq (by simp only [Go.Bd.encs_length]))
  by_cases c1 : ((↑(List.length a) : Int) = (↑(List.length b) : Int))
  · have h := h.1 c1
    have hz2 : ((↑(List.length a) : Int) != (↑(List.length b) : Int)) = false := (congrArg Bool.not (beq_iff_eq.2 c1))
    by_cases c2 : (a = b)
    · have h := h.1 c2
      have e1 := h
      exact callC_out (Sub.bool_eq e1) [kv 7 hz0, kv 9 hz1, kf hz2, kl [2, 3, 6, 7, 8, 9, 10, 11, 12, 13, 14, 15, 16, 17, 18, 19, 20, 21, 22, 23, 24, 25] 0 (show RunL P G none 0 (loopAt P 11 0) (St.mk (slots 26 [(0, AV.sl 5 false (encs a)), (1, AV.sl 5 false (encs b)), (4, Am.bool false), (5, int 0)]) [] []) (AEx.exit 0) (St.mk (slots 26 [(4, Am.bool false)]) [] []) from (by have h0 := (@Go.Bd.rs_run (a) (b) (by omega) (by omega)); simp only [if_pos c2] at h0; exact h0))] (by kernel_rfl)
    · have h := h.2 c2
      have e1 := h
      exact callC_out (Sub.bool_eq e1) [kv 7 hz0, kv 9 hz1, kf hz2, kl [2, 3, 6, 7, 8, 9, 10, 11, 12, 13, 14, 15, 16, 17, 18, 19, 20, 21, 22, 23, 24, 25] 0 (show RunL P G none 0 (loopAt P 11 0) (St.mk (slots 26 [(0, AV.sl 5 false (encs a)), (1, AV.sl 5 false (encs b)), (4, Am.bool false), (5, int 0)]) [] []) AEx.ret (St.mk (slots 26 [(4, Am.bool false)]) [] []) from (by have h0 := (@Go.Bd.rs_run (a) (b) (by omega) (by omega)); simp only [if_neg c2] at h0; exact h0))] (by kernel_rfl)
  · have h := h.2 c1
    have e1 := h
    exact callC_out (Sub.bool_eq e1) [kv 7 hz0, kv 9 hz1, kt (show ((↑(List.length a) : Int) != (↑(List.length b) : Int)) = true from (congrArg Bool.not (beq_eq_false_iff_ne.2 c1)))] (by kernel_rfl)

theorem rsame_c (a b : List BE) (ha : a.length ≤ 1000000000) (hb : b.length ≤ 1000000000) : CallC P G 11 [bes a, bes b] [] (.ret (bool (decide (a = b)))) [] := rsame_w a b ha hb (by
  have : a.length ≠ b.length → a ≠ b := fun h e => h (by rw [e])
  grind)

/-! few -/
def ctE (c : List Vec.D) : List AV := [Vec.vec c]
def cts (l : List (List Vec.D)) : List (List AV) := l.map ctE
theorem cts_length (l : List (List Vec.D)) : (cts l).length = l.length := by simp [cts]
abbrev ctx (l : List (List Vec.D)) : AV := .sl 1 true (cts l)
def shortN (v : List (List Vec.D)) : Nat → Nat → Bool
  | 0, _ => true
  | n + 1, k => match v[k]? with
    | some x => decide ((x.length : Int) ≤ 10) && shortN v n (k + 1)
    | none => true
def shortB (v : List (List Vec.D)) : Bool := v.all fun c => decide ((c.length : Int) ≤ 10)
theorem shortN_all (v : List (List Vec.D)) : ∀ n k, v.length - k = n → k ≤ v.length → shortN v n k = shortB (v.drop k)
  | 0, k, hn, hk => by rw [List.drop_eq_nil_of_le (by omega)]; rfl
  | n + 1, k, hn, hk => by
    have h : k < v.length := by omega
    rw [shortN, List.getElem?_eq_getElem h, List.drop_eq_getElem_cons h, shortB, List.all_cons, shortN_all v n (k + 1) (by omega) (by omega)]
    rfl

def fwSt (v : List BE) (cs : List (List Vec.D)) (k : Nat) : St := { env := slots 19 [(0, bes v), (1, ctx cs), (4, bool false), (7, ctx cs), (8, int cs.length), (9, int k)], H := [] }

theorem fw_w (v : List BE) (cs : List (List Vec.D)) (k : Nat) (hc : cs.length ≤ 10) (hs : ∀ c ∈ cs, c.length ≤ 9223372036854775807) (ex : AEx) (o : Bool) (h : ((((↑k : Int) < (↑(List.length cs) : Int)) → (∃ x2 : List Vec.D, (cs[k]? = some x2) ∧ ((((↑(List.length x2) : Int) > (10 : Int)) → (AEx.ret = ex) ∧ ((false) = (o))) ∧ ((¬(↑(List.length x2) : Int) > (10 : Int)) → RunL P G none 0 (loopAt P 5 0) (St.mk (slots 19 [(0, AV.sl 5 false (encs v)), (1, AV.sl 1 true (cts cs)), (4, Am.bool false), (7, AV.sl 1 true (cts cs)), (8, int (↑(List.length cs) : Int)), (9, int (↑(k + 1) : Int))]) [] []) ex (St.mk (slots 19 [(0, bes v), (4, Am.bool o)]) [] []))))) ∧ ((¬(↑k : Int) < (↑(List.length cs) : Int)) → (AEx.exit 0 = ex) ∧ ((false) = (o))))) : RunL P G none 0 (loopAt P 5 0) (fwSt v cs k) ex (St.mk (slots 19 [(0, bes v), (4, Am.bool o)]) [] []) := by
  by_cases c1 : ((↑k : Int) < (↑(List.length cs) : Int))
  · have h := h.1 c1
    obtain ⟨x2, o3, h⟩ := h
    have hz0 : (0 : Int) ≤ (↑k : Int) ∧ (cts cs)[Int.toNat (↑k : Int)]? = some (ctE x2) := (el_nat o3)
    have hz1 : Am.Sub (int (↑(List.length (Vec.encs x2)) : Int)) (int (↑(List.length x2) : Int)) := (Sub.of_eq (by simp only [Go.Vec.encs_length]))
    by_cases c4 : ((↑(List.length x2) : Int) > (10 : Int))
    · have h := h.1 c4
      obtain ⟨eX, e1⟩ := h
      exact RunL.to ((show RunL P G none 0 (loopAt P 5 0) (fwSt v cs k) AEx.ret (St.mk (slots 19 [(0, AV.sl 5 false (encs v)), (4, Am.bool false)]) [] []) from loop_exit [kt (decide_eq_true c1), ko (Orc.elem (ctE x2)), kp hz0, kv 14 hz1, kt (decide_eq_true c4)] (others 19 [0, 4]) 0 (by kernel_rfl))) eX (SubS.slots ⟨rfl, Sub.refl _, rfl, (Sub.bool_eq e1), trivial⟩)
    · have h := h.2 c4
      exact loop_next [kt (decide_eq_true c1), ko (Orc.elem (ctE x2)), kp hz0, kv 14 hz1, kf (decide_eq_false c4), kv 16 (show Am.Sub (int (IntKind.wrap IntKind.i64 ((↑k : Int) + 1))) (int (↑(k + 1) : Int)) from (Sub.of_wrap (by omega) (by omega) (by omega)))] (others 19 [0, 1, 4, 7, 8, 9]) 0 h (by kernel_rfl)
  · have h := h.2 c1
    obtain ⟨eX, e1⟩ := h
    exact RunL.to ((show RunL P G none 0 (loopAt P 5 0) (fwSt v cs k) (AEx.exit 0) (St.mk (slots 19 [(0, AV.sl 5 false (encs v)), (4, Am.bool false)]) [] []) from loop_exit [kf (decide_eq_false c1)] (others 19 [0, 4]) 0 (by kernel_rfl))) eX (SubS.slots ⟨rfl, Sub.refl _, rfl, (Sub.bool_eq e1), trivial⟩)

theorem fw_loop (v : List BE) (cs : List (List Vec.D)) (hc : cs.length ≤ 10) (hs : ∀ c ∈ cs, c.length ≤ 9223372036854775807) : ∀ n k, cs.length - k = n → k ≤ cs.length → RunL P G none 0 (loopAt P 5 0) (fwSt v cs k) (if shortN cs n k = true then .exit 0 else .ret) { env := slots 19 [(0, bes v), (4, bool false)], H := [] } := by
  intro n
  induction n with
  | zero => intro k hn hk; exact fw_w v cs k hc hs _ _ ⟨fun h => absurd h (by omega), fun _ => ⟨rfl, rfl⟩⟩
  | succ n ih =>
    intro k hn hk
    have hlt : k < cs.length := by omega
    have hx : cs[k]? = some cs[k] := List.getElem?_eq_getElem hlt
    have e : shortN cs (n + 1) k = (decide ((cs[k].length : Int) ≤ 10) && shortN cs n (k + 1)) := by rw [shortN, hx]
    have nx := ih (k + 1) (by omega) (by omega)
    refine fw_w v cs k hc hs _ _ ⟨fun h => ⟨cs[k], hx, ⟨fun h1 => ?_, fun h1 => ?_⟩⟩, fun h => absurd hlt (by omega)⟩
    · rw [e, show decide ((cs[k].length : Int) ≤ 10) = false by simp; omega]; exact ⟨rfl, rfl⟩
    · rw [e, show decide ((cs[k].length : Int) ≤ 10) = true by simp; omega, Bool.true_and]; exact nx
theorem fw_run (v : List BE) (cs : List (List Vec.D)) (hc : cs.length ≤ 10) (hs : ∀ c ∈ cs, c.length ≤ 9223372036854775807) : RunL P G none 0 (loopAt P 5 0) (fwSt v cs 0) (if shortB cs = true then .exit 0 else .ret) { env := slots 19 [(0, bes v), (4, bool false)], H := [] } := by
  have := fw_loop v cs hc hs cs.length 0 (by omega) (by omega)
  rw [shortN_all cs cs.length 0 (by omega) (by omega)] at this
  simpa using this

theorem few_w (v : List BE) (cs : List (List Vec.D)) (hc : cs.length ≤ 10) (hs : ∀ c ∈ cs, c.length ≤ 9223372036854775807) (hv : v.length ≤ 9223372036854775807) (h : (((shortB cs = true) → (fewB v) = (shortB cs && fewB v)) ∧ ((¬shortB cs = true) → (false) = (shortB cs && fewB v)))) : CallC P G 5 [bes v, ctx cs] [] (AOut.ret (Am.bool (shortB cs && fewB v))) [] := by
  have hz0 : Am.Sub (int (↑(List.length (cts cs)) : Int)) (int (↑(List.length cs) : Int)) := (Sub.of_eq (by simp only [Go.Bd.cts_length]))
  by_cases c1 : (shortB cs = true)
  · have h := h.1 c1
    have e1 := h
    exact callC_out (Sub.bool_eq e1) [kv 8 hz0, kl [2, 3, 5, 6, 10, 11, 12, 13, 14, 15, 16, 17, 18] 0 (show RunL P G none 0 (loopAt P 5 0) (St.mk (slots 19 [(0, AV.sl 5 false (encs v)), (1, AV.sl 1 true (cts cs)), (4, Am.bool false), (7, AV.sl 1 true (cts cs)), (8, int (↑(List.length cs) : Int)), (9, int 0)]) [] []) (AEx.exit 0) (St.mk (slots 19 [(0, AV.sl 5 false (encs v)), (4, Am.bool false)]) [] []) from (by have h0 := (@Go.Bd.fw_run (v) (cs) (by omega) (by omega)); simp only [if_pos c1] at h0; exact h0)), kc [] (@Go.Bd.rfew_c (v) (by omega))] (by kernel_rfl)
  · have h := h.2 c1
    have e1 := h
    exact callC_out (Sub.bool_eq e1) [kv 8 hz0, kl [2, 3, 5, 6, 10, 11, 12, 13, 14, 15, 16, 17, 18] 0 (show RunL P G none 0 (loopAt P 5 0) (St.mk (slots 19 [(0, AV.sl 5 false (encs v)), (1, AV.sl 1 true (cts cs)), (4, Am.bool false), (7, AV.sl 1 true (cts cs)), (8, int (↑(List.length cs) : Int)), (9, int 0)]) [] []) AEx.ret (St.mk (slots 19 [(0, AV.sl 5 false (encs v)), (4, Am.bool false)]) [] []) from (by have h0 := (@Go.Bd.fw_run (v) (cs) (by omega) (by omega)); simp only [if_neg c1] at h0; exact h0))] (by kernel_rfl)

theorem few_c (v : List BE) (cs : List (List Vec.D)) (hc : cs.length ≤ 10) (hs : ∀ c ∈ cs, c.length ≤ 9223372036854775807) (hv : v.length ≤ 9223372036854775807) : CallC P G 5 [bes v, ctx cs] [] (.ret (bool (shortB cs && fewB v))) [] := few_w v cs hc hs hv (by grind)
theorem few0_c (v : List BE) (hv : v.length ≤ 9223372036854775807) : CallC P G 5 [bes v, nilS] [] (.ret (bool (fewB v))) [] := (few_c v [] (by simp) (by simp) hv).args rfl fun j hj => by
  have : j < 2 := hj
  match j, this with
  | 0, _ => exact Sub.refl _
  | 1, _ => exact nilT1
end Go.Bd

/- BINDS, 10: what is known; where the first of a kind stands; Clone. -/
namespace Go.Bd
set_option maxRecDepth 100000
set_option linter.unusedSimpArgs false
set_option linter.unusedVariables false
open Go Go.Am Go.Proofs Go.Seat

/-- The closures of Drop and of Put. -/
abbrev knF (i j : Nat) : AV := .fn (.func 21) [] [.ptr i 0, .ptr j 0]
abbrev smF (i : Nat) : AV := .fn (.func 28) [] [.ptr i 0]

theorem kn_w (c : List Vec.D) (k : ByteArray) (b : BE) (hc : c.length ≤ 1000000000) (r : Bool) (h : ((((ByteArray.toList (BE.ky b) == ByteArray.toList k) = true) → (Vec.coversB c (b.2, b.3)) = (r)) ∧ (((ByteArray.toList (BE.ky b) == ByteArray.toList k) = false) → (false) = (r)))) : CallC P G 21 [bel b, AV.ptr 0 0, AV.ptr 1 0] [AObj.box [str k], AObj.box [Vec.vec c]] (AOut.ret (Am.bool r)) [AObj.box [str k], AObj.box [Vec.vec c]] := by
  rcases Bool.eq_false_or_eq_true ((ByteArray.toList (BE.ky b) == ByteArray.toList k)) with c1 | c1
  · have h := h.1 c1
    have e1 := h
    exact callC_out (Sub.bool_eq e1) [kt c1, kc [] (@Go.Vec.covers_c (c) (b.2) (b.3) (by omega))] (by kernel_rfl)
  · have h := h.2 c1
    have e1 := h
    exact callC_out (Sub.bool_eq e1) [kf c1] (by kernel_rfl)

theorem sm_w (b c : BE) (r : Bool) (h : (BE.dv b == BE.dv c && BE.sq b == BE.sq c) = (r)) : CallC P G 28 [bel b, AV.ptr 0 0] [AObj.box (enc c)] (AOut.ret (Am.bool r)) [AObj.box (enc c)] := by
  have e1 := h
  exact callC_out (Sub.bool_eq e1) [] (by kernel_rfl)

theorem kn_c (c : List Vec.D) (k : ByteArray) (b : BE) (hc : c.length ≤ 1000000000) : CallC P G 21 [bel b, .ptr 0 0, .ptr 1 0] [.box [str k], .box [Vec.vec c]] (.ret (bool (knownB c k b))) [.box [str k], .box [Vec.vec c]] := kn_w c k b hc _ (by
  rw [str_eq]
  refine ⟨fun h => ?_, fun h => ?_⟩
  · rw [knownB, h, Bool.true_and]; rfl
  · rw [knownB, h, Bool.false_and])
theorem sm_c (b c : BE) : CallC P G 28 [bel b, .ptr 0 0] [.box (enc c)] (.ret (bool (decide (b.dot = c.dot)))) [.box (enc c)] := sm_w b c _ (dot_beq b c)

/-! IndexFunc: data, the Dot of one. -/
def ixS (v : List BE) (b : BE) (k : Nat) : St := { env := slots 19 [(0, bes v), (1, smF 0), (4, int 0), (6, bes v), (7, int v.length), (8, int k)], H := [.box (enc b)] }

theorem ixs_w (v : List BE) (b : BE) (k : Nat) (hv : v.length ≤ 1000000000) (ex : AEx) (r : Int) (h : ((((↑k : Int) < (↑(List.length v) : Int)) → (∃ x2 : BE, (v[k]? = some x2) ∧ (((BE.dot x2 = BE.dot b) → (AEx.ret = ex) ∧ (((↑k : Int) : Int) = (r))) ∧ ((¬BE.dot x2 = BE.dot b) → RunL P G none 1 (loopAt P 44 0) (St.mk (slots 19 [(0, AV.sl 5 false (encs v)), (1, AV.fn (Fn.func 28) [] [AV.ptr 0 0]), (4, int 0), (6, AV.sl 5 false (encs v)), (7, int (↑(List.length v) : Int)), (8, int (↑(k + 1) : Int))]) [AObj.box [str (BE.ky b), int (BE.dv b), int (BE.sq b), int (BE.tm b), str (BE.vl b)]] []) ex (St.mk (slots 19 [(4, int r)]) [AObj.box (enc b)] []))))) ∧ ((¬(↑k : Int) < (↑(List.length v) : Int)) → (AEx.exit 0 = ex) ∧ ((0 : Int) = (r))))) : RunL P G none 1 (loopAt P 44 0) (ixS v b k) ex (St.mk (slots 19 [(4, int r)]) [AObj.box (enc b)] []) := by
  by_cases c1 : ((↑k : Int) < (↑(List.length v) : Int))
  · have h := h.1 c1
    obtain ⟨x2, o3, h⟩ := h
    have hz0 : (0 : Int) ≤ (↑k : Int) ∧ (encs v)[Int.toNat (↑k : Int)]? = some (enc x2) := (el_nat o3)
    have hz1 := (@Go.Bd.sm_c (x2) (b))
    by_cases c4 : (BE.dot x2 = BE.dot b)
    · have h := h.1 c4
      obtain ⟨eX, e1⟩ := h
      exact RunL.to ((show RunL P G none 1 (loopAt P 44 0) (ixS v b k) AEx.ret (St.mk (slots 19 [(4, int (↑k : Int))]) [AObj.box [str (BE.ky b), int (BE.dv b), int (BE.sq b), int (BE.tm b), str (BE.vl b)]] []) from loop_exit [kt (decide_eq_true c1), ko (Orc.elem (enc x2)), kp hz0, kc [0] hz1, kt (decide_eq_true c4)] (others 19 [4]) 1 (by kernel_rfl))) eX (SubS.slots ⟨rfl, (Sub.int_eq e1), trivial⟩)
    · have h := h.2 c4
      exact loop_next [kt (decide_eq_true c1), ko (Orc.elem (enc x2)), kp hz0, kc [0] hz1, kf (decide_eq_false c4), kv 18 (show Am.Sub (int (IntKind.wrap IntKind.i64 ((↑k : Int) + 1))) (int (↑(k + 1) : Int)) from (Sub.of_wrap (by omega) (by omega) (by omega)))] (others 19 [0, 1, 4, 6, 7, 8]) 1 h (by kernel_rfl)
  · have h := h.2 c1
    obtain ⟨eX, e1⟩ := h
    exact RunL.to ((show RunL P G none 1 (loopAt P 44 0) (ixS v b k) (AEx.exit 0) (St.mk (slots 19 [(4, int 0)]) [AObj.box [str (BE.ky b), int (BE.dv b), int (BE.sq b), int (BE.tm b), str (BE.vl b)]] []) from loop_exit [kf (decide_eq_false c1)] (others 19 [4]) 1 (by kernel_rfl))) eX (SubS.slots ⟨rfl, (Sub.int_eq e1), trivial⟩)

def ixO (v : List BE) (c : List Vec.D) (y : ByteArray) (k : Nat) : St := { env := slots 19 [(0, .own 0 0 0 v.length), (1, knF 1 2), (4, int 0), (6, .own 0 0 0 v.length), (7, int v.length), (8, int k)], H := [.arr 0 5 false (encs v), .box [str y], .box [Vec.vec c]] }

theorem ixo_w (v : List BE) (c : List Vec.D) (y : ByteArray) (k : Nat) (hv : v.length ≤ 1000000000) (hc : c.length ≤ 1000000000) (ex : AEx) (r : Int) (h : ((((↑k : Int) < (↑(List.length v) : Int)) → (∃ x2 : BE, (v[0 + k]? = some x2) ∧ ((((knownB c y x2) = true) → (AEx.ret = ex) ∧ (((↑k : Int) : Int) = (r))) ∧ (((knownB c y x2) = false) → RunL P G none 3 (loopAt P 44 0) (St.mk (slots 19 [(0, AV.own 0 0 0 (List.length v)), (1, AV.fn (Fn.func 21) [] [AV.ptr 1 0, AV.ptr 2 0]), (4, int 0), (6, AV.own 0 0 0 (List.length v)), (7, int (↑(List.length v) : Int)), (8, int (↑(k + 1) : Int))]) [AObj.arr 0 5 false (encs v), AObj.box [str y], AObj.box [AV.sl 2 false (Vec.encs c)]] []) ex (St.mk (slots 19 [(4, int r)]) [AObj.arr 0 5 false (encs v), AObj.box [str y], AObj.box [Vec.vec c]] []))))) ∧ ((¬(↑k : Int) < (↑(List.length v) : Int)) → (AEx.exit 0 = ex) ∧ ((0 : Int) = (r))))) : RunL P G none 3 (loopAt P 44 0) (ixO v c y k) ex (St.mk (slots 19 [(4, int r)]) [AObj.arr 0 5 false (encs v), AObj.box [str y], AObj.box [Vec.vec c]] []) := by
  have hz0 : 0 = 0 := (rfl)
  by_cases c1 : ((↑k : Int) < (↑(List.length v) : Int))
  · have h := h.1 c1
    have hz1 : (0 : Int) ≤ (↑k : Int) ∧ (↑k : Int) < (↑(List.length v) : Int) := (by omega)
    obtain ⟨x2, o3, h⟩ := h
    have hz2 : (encs v)[0 + Int.toNat (↑k : Int)]? = some (enc x2) := (el_get o3)
    have hz3 := (@Go.Bd.kn_c (c) (y) (x2) (by omega))
    rcases Bool.eq_false_or_eq_true ((knownB c y x2)) with c4 | c4
    · have h := h.1 c4
      obtain ⟨eX, e1⟩ := h
      exact RunL.to ((show RunL P G none 3 (loopAt P 44 0) (ixO v c y k) AEx.ret (St.mk (slots 19 [(4, int (↑k : Int))]) [AObj.arr 0 5 false (encs v), AObj.box [str y], AObj.box [AV.sl 2 false (Vec.encs c)]] []) from loop_exit [kt (decide_eq_true c1), ko (Orc.elem (enc x2)), kp hz0, kp hz1, kp hz0, kp hz2, kc [1, 2] hz3, kt c4] (others 19 [4]) 3 (by kernel_rfl))) eX (SubS.slots ⟨rfl, (Sub.int_eq e1), trivial⟩)
    · have h := h.2 c4
      exact loop_next [kt (decide_eq_true c1), ko (Orc.elem (enc x2)), kp hz0, kp hz1, kp hz0, kp hz2, kc [1, 2] hz3, kf c4, kv 18 (show Am.Sub (int (IntKind.wrap IntKind.i64 ((↑k : Int) + 1))) (int (↑(k + 1) : Int)) from (Sub.of_wrap (by omega) (by omega) (by omega)))] (others 19 [0, 1, 4, 6, 7, 8]) 3 h (by kernel_rfl)
  · have h := h.2 c1
    obtain ⟨eX, e1⟩ := h
    exact RunL.to ((show RunL P G none 3 (loopAt P 44 0) (ixO v c y k) (AEx.exit 0) (St.mk (slots 19 [(4, int 0)]) [AObj.arr 0 5 false (encs v), AObj.box [str y], AObj.box [AV.sl 2 false (Vec.encs c)]] []) from loop_exit [kf (decide_eq_false c1)] (others 19 [4]) 3 (by kernel_rfl))) eX (SubS.slots ⟨rfl, (Sub.int_eq e1), trivial⟩)

theorem cl_w (v : List BE) (hv : v.length ≤ 1000000000) (hne : ¬ encs v = []) (h : True) : CallC P G 24 [bes v] [] (AOut.ret (AV.own 0 0 0 (List.length v))) [AObj.arr 0 5 false (encs v)] := by
  have _ := h
  exact callC_of [kp (show encs v ≠ [] from (by omega)), kf (Eq.refl false), kv 7 (show Am.Sub (AV.own 0 0 0 (0 + List.length (encs v))) (AV.own 0 0 0 (List.length v)) from (Sub.of_eq (by simp [Go.Bd.encs_length, Go.Bd.encs_ids, Go.Bd.encs_pure, Go.Bd.encs_all]))), kp hne, kp (show (0 + List.length (encs v)) * 56 ≤ 140737488355328 from (by simp only [List.length_append, List.length_cons, List.length_nil, List.length_map, Go.Bd.encs_length, Go.Bd.encs_ids, Go.Bd.encs_pure, Go.Bd.encs_all] <;> omega))] (by kernel_rfl)

def midV (i j : Nat) : Int := IntKind.wrap IntKind.i64 (Int.fdiv (↑(i + j) : Int) (2 ^ min (Int.toNat 1) (IntKind.bits IntKind.u64)))
theorem midV_eq {i j : Nat} (h : i + j ≤ 1000000000000) : midV i j = (((i + j) / 2 : Nat) : Int) := by
  have e : (2 ^ min (Int.toNat 1) (IntKind.bits IntKind.u64) : Int) = 2 := by decide
  unfold midV
  rw [e, IntKind.wrap_i64, Int.fdiv_eq_ediv_of_nonneg _ (by omega)]
  omega
def bsS (v w : List BE) (b : BE) (i j : Nat) : St := { env := slots 49 [(0, .own 0 0 0 v.length), (2, fnF 18), (4, .ptr 1 0), (8, int v.length), (9, int i), (10, int j)], H := [.arr 0 5 false (encs (v ++ w)), .box (enc b)] }

theorem bs_w (v w : List BE) (b : BE) (i j m : Nat) (hj : j ≤ v.length) (hv : v.length ≤ 1000000000) (hm : midV i j = (m : Int)) (hm' : IntKind.wrap IntKind.i64 (Int.fdiv (↑(i + j) : Int) (2 ^ min (Int.toNat 1) (IntKind.bits IntKind.u64))) = (m : Int)) (hlt : m < j) (ex : AEx) (s : St) (h : ((((↑i : Int) < (↑j : Int)) → (∃ x2 : BE, ((v ++ w)[0 + Int.toNat (midV i j)]? = some x2) ∧ (((inMapV x2 b < (0 : Int)) → RunL P G none 1 (loopAt P 30 0) (St.mk (slots 49 [(0, AV.own 0 0 0 (List.length v)), (2, AV.lit (Value.func (Fn.func 18) (Array.mk []) (Array.mk []))), (4, AV.ptr 1 0), (8, int (↑(List.length v) : Int)), (9, int (midV i j + 1)), (10, int (↑j : Int))]) [AObj.arr 0 5 false (encs (v ++ w)), AObj.box [str (BE.ky b), int (BE.dv b), int (BE.sq b), int (BE.tm b), str (BE.vl b)]] []) ex s) ∧ ((¬inMapV x2 b < (0 : Int)) → RunL P G none 1 (loopAt P 30 0) (St.mk (slots 49 [(0, AV.own 0 0 0 (List.length v)), (2, AV.lit (Value.func (Fn.func 18) (Array.mk []) (Array.mk []))), (4, AV.ptr 1 0), (8, int (↑(List.length v) : Int)), (9, int (↑i : Int)), (10, int (midV i j))]) [AObj.arr 0 5 false (encs (v ++ w)), AObj.box [str (BE.ky b), int (BE.dv b), int (BE.sq b), int (BE.tm b), str (BE.vl b)]] []) ex s)))) ∧ ((¬(↑i : Int) < (↑j : Int)) → (AEx.exit 0 = ex) ∧ (St.mk (slots 49 [(0, AV.own 0 0 0 (List.length v)), (2, AV.lit (Value.func (Fn.func 18) (Array.mk []) (Array.mk []))), (4, AV.ptr 1 0), (8, int (↑(List.length v) : Int)), (9, int (↑i : Int))]) [AObj.arr 0 5 false (encs (v ++ w)), AObj.box [str (BE.ky b), int (BE.dv b), int (BE.sq b), int (BE.tm b), str (BE.vl b)]] [] = s)))) : RunL P G none 1 (loopAt P 30 0) (bsS v w b i j) ex s := by
  have hz3 : 0 = 0 := (rfl)
  by_cases c1 : ((↑i : Int) < (↑j : Int))
  · have h := h.1 c1
    have hz0 : Am.Sub (int (IntKind.wrap IntKind.i64 ((↑i : Int) + (↑j : Int)))) (int (↑(i + j) : Int)) := (Sub.of_wrap (by omega) (by omega) (by omega))
    have hz1 : Am.Sub (AV.lit (Value.int IntKind.u64 (IntKind.wrap IntKind.u64 (↑(i + j) : Int)))) (AV.lit (Value.int IntKind.u64 (↑(i + j) : Int))) := (Sub.of_wrapU (by omega) (by omega) rfl)
    have hz2 : (0 : Int) ≤ (1 : Int) := (by omega)
    have hz4 : (0 : Int) ≤ IntKind.wrap IntKind.i64 (Int.fdiv (↑(i + j) : Int) (2 ^ min (Int.toNat 1) (IntKind.bits IntKind.u64))) ∧ IntKind.wrap IntKind.i64 (Int.fdiv (↑(i + j) : Int) (2 ^ min (Int.toNat 1) (IntKind.bits IntKind.u64))) < (↑(List.length v) : Int) := (by omega)
    obtain ⟨x2, o3, h⟩ := h
    have hz5 : (encs (v ++ w))[0 + Int.toNat (IntKind.wrap IntKind.i64 (Int.fdiv (↑(i + j) : Int) (2 ^ min (Int.toNat 1) (IntKind.bits IntKind.u64))))]? = some (enc x2) := (el_get o3)
    have hz6 := (@Go.Bd.inMap_c (x2) (b))
    by_cases c4 : (inMapV x2 b < (0 : Int))
    · have h := h.1 c4
      exact loop_next [kt (decide_eq_true c1), kv 20 hz0, kv 21 hz1, ko (Orc.elem (enc x2)), kp hz2, kp hz3, kp hz4, kp hz3, kp hz5, kc [] hz6, kt (decide_eq_true c4), kv 33 (show Am.Sub (int (IntKind.wrap IntKind.i64 (IntKind.wrap IntKind.i64 (Int.fdiv (↑(i + j) : Int) (2 ^ min (Int.toNat 1) (IntKind.bits IntKind.u64))) + 1))) (int (midV i j + 1)) from (Sub.of_wrap (by omega) (by omega) rfl))] (others 49 [0, 2, 4, 8, 9, 10]) 2 h (by kernel_rfl)
    · have h := h.2 c4
      exact loop_next [kt (decide_eq_true c1), kv 20 hz0, kv 21 hz1, ko (Orc.elem (enc x2)), kp hz2, kp hz3, kp hz4, kp hz3, kp hz5, kc [] hz6, kf (decide_eq_false c4)] (others 49 [0, 2, 4, 8, 9, 10]) 2 h (by kernel_rfl)
  · have h := h.2 c1
    obtain ⟨eX, eS⟩ := h
    exact RunL.to ((show RunL P G none 1 (loopAt P 30 0) (bsS v w b i j) (AEx.exit 0) (St.mk (slots 49 [(0, AV.own 0 0 0 (List.length v)), (2, AV.lit (Value.func (Fn.func 18) (Array.mk []) (Array.mk []))), (4, AV.ptr 1 0), (8, int (↑(List.length v) : Int)), (9, int (↑i : Int))]) [AObj.arr 0 5 false (encs (v ++ w)), AObj.box [str (BE.ky b), int (BE.dv b), int (BE.sq b), int (BE.tm b), str (BE.vl b)]] []) from loop_exit [kf (decide_eq_false c1)] (others 49 [0, 2, 4, 8, 9]) 2 (by kernel_rfl))) eX (SubS.of_eq eS)

/-! IndexFunc -/
def ixV (p : BE → Bool) : Nat → List BE → Int
  | _, [] => -1
  | k, b :: t => if p b = true then (k : Int) else ixV p (k + 1) t
theorem ixV_none {p : BE → Bool} : ∀ {v : List BE} {k : Nat}, v.any p = false → ixV p k v = -1
  | [], _, _ => rfl
  | b :: t, k, h => by
    simp only [List.any_cons, Bool.or_eq_false_iff] at h
    rw [ixV, if_neg (by rw [h.1]; decide)]
    exact ixV_none h.2
theorem ixV_some {p : BE → Bool} : ∀ {v : List BE} {k : Nat}, v.any p = true → ∃ j b, ixV p k v = ((k + j : Nat) : Int) ∧ v[j]? = some b ∧ p b = true ∧ ∀ a ∈ v.take j, p a = false
  | [], _, h => by cases h
  | b :: t, k, h => by
    cases hp : p b with
    | true => exact ⟨0, b, by rw [ixV, if_pos hp]; rfl, rfl, hp, by simp⟩
    | false =>
      simp only [List.any_cons, hp, Bool.false_or] at h
      obtain ⟨j, c, h1, h2, h3, h4⟩ := ixV_some (k := k + 1) h
      refine ⟨j + 1, c, by rw [ixV, if_neg (by rw [hp]; decide), h1]; omega, by simpa using h2, h3, fun a ha => ?_⟩
      rw [List.take_succ_cons] at ha
      rcases List.mem_cons.1 ha with rfl | ha
      · exact hp
      · exact h4 a ha

theorem ixs_loop (v : List BE) (b : BE) (hv : v.length ≤ 1000000000) : ∀ n k, v.length - k = n → k ≤ v.length → RunL P G none 1 (loopAt P 44 0) (ixS v b k) (if (v.drop k).any (fun a => decide (a.dot = b.dot)) = true then .ret else .exit 0) { env := slots 19 [(4, int (if (v.drop k).any (fun a => decide (a.dot = b.dot)) = true then ixV (fun a => decide (a.dot = b.dot)) k (v.drop k) else 0))], H := [.box (enc b)] } := by
  intro n
  induction n with
  | zero =>
    intro k hn hk
    rw [List.drop_eq_nil_of_le (by omega)]
    exact ixs_w v b k hv _ _ ⟨fun h => absurd h (by omega), fun _ => ⟨rfl, rfl⟩⟩
  | succ n ih =>
    intro k hn hk
    have hlt : k < v.length := by omega
    have nx := ih (k + 1) (by omega) (by omega)
    rw [List.drop_eq_getElem_cons hlt, List.any_cons, ixV]
    refine ixs_w v b k hv _ _ ⟨fun h => ⟨v[k], List.getElem?_eq_getElem hlt, ⟨fun hq => ?_, fun hq => ?_⟩⟩, fun h => absurd hlt (by omega)⟩
    · simp [hq]
    · simp only [decide_eq_false hq, Bool.false_or]
      rw [if_neg (show ¬ false = true by decide)]
      exact nx
theorem ixo_loop (v : List BE) (c : List Vec.D) (y : ByteArray) (hv : v.length ≤ 1000000000) (hc : c.length ≤ 1000000000) : ∀ n k, v.length - k = n → k ≤ v.length → RunL P G none 3 (loopAt P 44 0) (ixO v c y k) (if (v.drop k).any (knownB c y) = true then .ret else .exit 0) { env := slots 19 [(4, int (if (v.drop k).any (knownB c y) = true then ixV (knownB c y) k (v.drop k) else 0))], H := [.arr 0 5 false (encs v), .box [str y], .box [Vec.vec c]] } := by
  intro n
  induction n with
  | zero =>
    intro k hn hk
    rw [List.drop_eq_nil_of_le (by omega)]
    exact ixo_w v c y k hv hc _ _ ⟨fun h => absurd h (by omega), fun _ => ⟨rfl, rfl⟩⟩
  | succ n ih =>
    intro k hn hk
    have hlt : k < v.length := by omega
    have nx := ih (k + 1) (by omega) (by omega)
    rw [List.drop_eq_getElem_cons hlt, List.any_cons, ixV]
    refine ixo_w v c y k hv hc _ _ ⟨fun h => ⟨v[k], by rw [Nat.zero_add]; exact List.getElem?_eq_getElem hlt, ⟨fun hq => ?_, fun hq => ?_⟩⟩, fun h => absurd hlt (by omega)⟩
    · simp [hq]
    · simp only [hq, Bool.false_or]
      rw [if_neg (show ¬ false = true by decide)]
      exact nx
theorem ixs_l (v : List BE) (b : BE) (hv : v.length ≤ 1000000000) : RunL P G none 1 (loopAt P 44 0) (ixS v b 0) (if v.any (fun a => decide (a.dot = b.dot)) = true then .ret else .exit 0) { env := slots 19 [(4, int (if v.any (fun a => decide (a.dot = b.dot)) = true then ixV (fun a => decide (a.dot = b.dot)) 0 v else 0))], H := [.box (enc b)] } := ixs_loop v b hv _ 0 rfl (by omega)
theorem ixo_l (v : List BE) (c : List Vec.D) (y : ByteArray) (hv : v.length ≤ 1000000000) (hc : c.length ≤ 1000000000) : RunL P G none 3 (loopAt P 44 0) (ixO v c y 0) (if v.any (knownB c y) = true then .ret else .exit 0) { env := slots 19 [(4, int (if v.any (knownB c y) = true then ixV (knownB c y) 0 v else 0))], H := [.arr 0 5 false (encs v), .box [str y], .box [Vec.vec c]] } := ixo_loop v c y hv hc _ 0 rfl (by omega)

theorem ixs_f (v : List BE) (b : BE) (hv : v.length ≤ 1000000000) (r : Int) (h : ((((List.any v fun (a : BE) => decide (BE.dot a = BE.dot b)) = true) → (ixV (fun (a : BE) => decide (BE.dot a = BE.dot b)) 0 v : Int) = (r)) ∧ ((¬(List.any v fun (a : BE) => decide (BE.dot a = BE.dot b)) = true) → (-1 : Int) = (r)))) : CallC P G 44 [bes v, smF 0] [AObj.box (enc b)] (AOut.ret (int r)) [AObj.box (enc b)] := by
  have hz0 : Am.Sub (int (↑(List.length (encs v)) : Int)) (int (↑(List.length v) : Int)) := (Sub.of_eq (by simp only [Go.Bd.encs_length]))
  by_cases c1 : ((List.any v fun (a : BE) => decide (BE.dot a = BE.dot b)) = true)
  · have h := h.1 c1
    have e1 := h
    exact callC_out (Sub.int_eq e1) [kv 7 hz0, kl [2, 3, 5, 9, 10, 11, 12, 13, 14, 15, 16, 17, 18] 1 (show RunL P G none 1 (loopAt P 44 0) (St.mk (slots 19 [(0, AV.sl 5 false (encs v)), (1, AV.fn (Fn.func 28) [] [AV.ptr 0 0]), (4, int 0), (6, AV.sl 5 false (encs v)), (7, int (↑(List.length v) : Int)), (8, int 0)]) [AObj.box [str (BE.ky b), int (BE.dv b), int (BE.sq b), int (BE.tm b), str (BE.vl b)]] []) AEx.ret (St.mk (slots 19 [(4, int (ixV (fun (a : BE) => decide (BE.dot a = BE.dot b)) 0 v))]) [AObj.box [str (BE.ky b), int (BE.dv b), int (BE.sq b), int (BE.tm b), str (BE.vl b)]] []) from (by have h0 := (@Go.Bd.ixs_l (v) (b) (by omega)); simp only [if_pos c1] at h0; exact h0))] (by kernel_rfl)
  · have h := h.2 c1
    have e1 := h
    exact callC_out (Sub.int_eq e1) [kv 7 hz0, kl [2, 3, 5, 9, 10, 11, 12, 13, 14, 15, 16, 17, 18] 1 (show RunL P G none 1 (loopAt P 44 0) (St.mk (slots 19 [(0, AV.sl 5 false (encs v)), (1, AV.fn (Fn.func 28) [] [AV.ptr 0 0]), (4, int 0), (6, AV.sl 5 false (encs v)), (7, int (↑(List.length v) : Int)), (8, int 0)]) [AObj.box [str (BE.ky b), int (BE.dv b), int (BE.sq b), int (BE.tm b), str (BE.vl b)]] []) (AEx.exit 0) (St.mk (slots 19 [(4, int 0)]) [AObj.box [str (BE.ky b), int (BE.dv b), int (BE.sq b), int (BE.tm b), str (BE.vl b)]] []) from (by have h0 := (@Go.Bd.ixs_l (v) (b) (by omega)); simp only [if_neg c1] at h0; exact h0))] (by kernel_rfl)

theorem ixo_f (v : List BE) (c : List Vec.D) (y : ByteArray) (hv : v.length ≤ 1000000000) (hc : c.length ≤ 1000000000) (r : Int) (h : (((List.any v (knownB c y) = true) → (ixV (knownB c y) 0 v : Int) = (r)) ∧ ((¬List.any v (knownB c y) = true) → (-1 : Int) = (r)))) : CallC P G 44 [AV.own 0 0 0 (List.length v), knF 1 2] [AObj.arr 0 5 false (encs v), AObj.box [str y], AObj.box [Vec.vec c]] (AOut.ret (int r)) [AObj.arr 0 5 false (encs v), AObj.box [str y], AObj.box [Vec.vec c]] := by
  have hz0 : 0 = 0 := (rfl)
  by_cases c1 : (List.any v (knownB c y) = true)
  · have h := h.1 c1
    have e1 := h
    exact callC_out (Sub.int_eq e1) [kp hz0, kl [2, 3, 5, 9, 10, 11, 12, 13, 14, 15, 16, 17, 18] 3 (show RunL P G none 3 (loopAt P 44 0) (St.mk (slots 19 [(0, AV.own 0 0 0 (List.length v)), (1, AV.fn (Fn.func 21) [] [AV.ptr 1 0, AV.ptr 2 0]), (4, int 0), (6, AV.own 0 0 0 (List.length v)), (7, int (↑(List.length v) : Int)), (8, int 0)]) [AObj.arr 0 5 false (encs v), AObj.box [str y], AObj.box [AV.sl 2 false (Vec.encs c)]] []) AEx.ret (St.mk (slots 19 [(4, int (ixV (knownB c y) 0 v))]) [AObj.arr 0 5 false (encs v), AObj.box [str y], AObj.box [AV.sl 2 false (Vec.encs c)]] []) from (by have h0 := (@Go.Bd.ixo_l (v) (c) (y) (by omega) (by omega)); simp only [if_pos c1] at h0; exact h0))] (by kernel_rfl)
  · have h := h.2 c1
    have e1 := h
    exact callC_out (Sub.int_eq e1) [kp hz0, kl [2, 3, 5, 9, 10, 11, 12, 13, 14, 15, 16, 17, 18] 3 (show RunL P G none 3 (loopAt P 44 0) (St.mk (slots 19 [(0, AV.own 0 0 0 (List.length v)), (1, AV.fn (Fn.func 21) [] [AV.ptr 1 0, AV.ptr 2 0]), (4, int 0), (6, AV.own 0 0 0 (List.length v)), (7, int (↑(List.length v) : Int)), (8, int 0)]) [AObj.arr 0 5 false (encs v), AObj.box [str y], AObj.box [AV.sl 2 false (Vec.encs c)]] []) (AEx.exit 0) (St.mk (slots 19 [(4, int 0)]) [AObj.arr 0 5 false (encs v), AObj.box [str y], AObj.box [AV.sl 2 false (Vec.encs c)]] []) from (by have h0 := (@Go.Bd.ixo_l (v) (c) (y) (by omega) (by omega)); simp only [if_neg c1] at h0; exact h0))] (by kernel_rfl)

end Go.Bd

/- BINDS, 11: ContainsFunc, BinarySearchFunc, DeleteFunc. -/
namespace Go.Bd
set_option maxRecDepth 100000
set_option linter.unusedSimpArgs false
set_option linter.unusedVariables false
open Go Go.Am Go.Proofs Go.Seat

theorem ct_w (v : List BE) (b : BE) (i : Int) (h0 : CallC P G 44 [bes v, smF 0] [.box (enc b)] (.ret (int i)) [.box (enc b)]) (r : Bool) (h : (decide (i ≥ (0 : Int))) = (r)) : CallC P G 29 [bes v, smF 0] [AObj.box (enc b)] (AOut.ret (Am.bool r)) [AObj.box (enc b)] := by
  have e1 := h
  exact callC_out (Sub.bool_eq e1) [kc [0] (@h0 )] (by kernel_rfl)

theorem contains_c (v : List BE) (b : BE) (hv : v.length ≤ 1000000000) : CallC P G 29 [bes v, smF 0] [.box (enc b)] (.ret (bool (v.any fun a => decide (a.dot = b.dot)))) [.box (enc b)] := by
  have h0 := ixs_f v b hv (ixV (fun a => decide (a.dot = b.dot)) 0 v) ⟨fun _ => rfl, fun h => by rw [ixV_none (by simpa using h)]⟩
  refine ct_w v b _ h0 _ ?_
  cases h : v.any fun a => decide (a.dot = b.dot) with
  | true =>
    obtain ⟨j, c, e, _⟩ := ixV_some (k := 0) h
    rw [e]; simp
  | false => rw [ixV_none h]; simp

def bsX (v w : List BE) (b : BE) (p : Nat) : St := { env := slots 49 [(0, .own 0 0 0 v.length), (2, fnF 18), (4, .ptr 1 0), (8, int v.length), (9, int p)], H := [.arr 0 5 false (encs (v ++ w)), .box (enc b)] }

theorem bsf_w (v w : List BE) (b : BE) (p : Nat) (hp : p ≤ v.length) (hv : v.length ≤ 1000000000) (hL : RunL P G none 1 (loopAt P 30 0) (bsS v w b 0 v.length) (.exit 0) (bsX v w b p)) (r : Bool) (h : ((((↑p : Int) < (↑(List.length v) : Int)) → (∃ x2 : BE, ((v ++ w)[0 + p]? = some x2) ∧ (inMapV x2 b == 0) = (r))) ∧ ((¬(↑p : Int) < (↑(List.length v) : Int)) → (false) = (r)))) : CallC P G 30 [AV.own 0 0 0 (List.length v), bel b, fnF 18] [AObj.arr 0 5 false (encs (v ++ w))] (AOut.ret (AV.tup [int (↑p : Int), Am.bool r])) [AObj.arr 0 5 false (encs (v ++ w))] := by
  have hz0 : 0 = 0 := (rfl)
  have hz1 := (@hL )
  have hz5 : ∀ (x : List AV), x ∈ encs (v ++ w) → AV.idsInL [] x = true := (Go.Bd.encs_ids _)
  by_cases c1 : ((↑p : Int) < (↑(List.length v) : Int))
  · have h := h.1 c1
    obtain ⟨x2, o3, h⟩ := h
    have e1 := h
    exact CallC.out ((show CallC P G 30 [AV.own 0 0 0 (List.length v), bel b, fnF 18] [AObj.arr 0 5 false (encs (v ++ w))] (AOut.ret (AV.tup [int (↑p : Int), Am.bool (inMapV x2 b == 0)])) [AObj.arr 0 5 false (encs (v ++ w))] from callC_of [kp hz0, kl [1, 3, 5, 6, 7, 11, 12, 13, 14, 15, 16, 17, 18, 19, 20, 21, 22, 23, 24, 25, 26, 27, 28, 29, 30, 31, 32, 33, 34, 35, 36, 37, 38, 39, 40, 41, 42, 43, 44, 45, 46, 47, 48] 2 hz1, kt (decide_eq_true c1), ko (Orc.elem (enc x2)), kp hz0, kp (show (0 : Int) ≤ (↑p : Int) ∧ (↑p : Int) < (↑(List.length v) : Int) from (by omega)), kp hz0, kp (show (encs (v ++ w))[0 + Int.toNat (↑p : Int)]? = some (enc x2) from (el_get o3)), kc [] (@Go.Bd.inMap_c (x2) (b)), kp hz5] (by kernel_rfl))) (Sub.tups ⟨Sub.refl _, (Sub.bool_eq e1), trivial⟩)
  · have h := h.2 c1
    have e1 := h
    exact CallC.out ((show CallC P G 30 [AV.own 0 0 0 (List.length v), bel b, fnF 18] [AObj.arr 0 5 false (encs (v ++ w))] (AOut.ret (AV.tup [int (↑p : Int), Am.bool false])) [AObj.arr 0 5 false (encs (v ++ w))] from callC_of [kp hz0, kl [1, 3, 5, 6, 7, 11, 12, 13, 14, 15, 16, 17, 18, 19, 20, 21, 22, 23, 24, 25, 26, 27, 28, 29, 30, 31, 32, 33, 34, 35, 36, 37, 38, 39, 40, 41, 42, 43, 44, 45, 46, 47, 48] 2 hz1, kf (decide_eq_false c1), kp hz5] (by kernel_rfl))) (Sub.tups ⟨Sub.refl _, (Sub.bool_eq e1), trivial⟩)

theorem bs_e (v w : List BE) (b : BE) (i j : Nat) (hij : ¬ (i : Int) < (j : Int)) (h : True) : RunL P G none 1 (loopAt P 30 0) (bsS v w b i j) (AEx.exit 0) (bsX v w b i) := by
  have _ := h
  exact loop_exit [kf (show decide ((↑i : Int) < (↑j : Int)) = false from (decide_eq_false (by omega)))] (others 49 [0, 2, 4, 8, 9]) 2 (by kernel_rfl)

def plcB (b : BE) (v : List BE) : Nat := (v.takeWhile fun a => lessB a b).length
theorem plcB_le (b : BE) (v : List BE) : plcB b v ≤ v.length := (List.takeWhile_sublist _).length_le
theorem plcB_lt {b : BE} : ∀ {v : List BE} (_ : v.Pairwise fun a c => lessB a c = true) {m : Nat} (hm : m < v.length), lessB v[m] b = true ↔ m < plcB b v
  | [], _, m, hm => absurd hm (by simp)
  | a :: t, hs, m, hm => by
    rw [List.pairwise_cons] at hs
    cases hl : lessB a b with
    | true =>
      have e : plcB b (a :: t) = plcB b t + 1 := by simp [plcB, hl]
      rw [e]
      cases m with
      | zero => simp [hl]
      | succ m =>
        have := plcB_lt hs.2 (b := b) (m := m) (by simpa using hm)
        simpa using this
    | false =>
      have e : plcB b (a :: t) = 0 := by simp [plcB, hl]
      rw [e]
      cases m with
      | zero => simp [hl]
      | succ m =>
        have hlt : m < t.length := by simpa using hm
        have h1 := hs.1 t[m] (List.getElem_mem _)
        simp only [List.getElem_cons_succ, Nat.not_lt_zero, iff_false]
        intro h2
        rw [less_trans h1 h2] at hl
        cases hl
theorem bs_loop (v w : List BE) (b : BE) (hv : v.length ≤ 1000000000) (hs : v.Pairwise fun a c => lessB a c = true) : ∀ n i j, j - i ≤ n → i ≤ plcB b v → plcB b v ≤ j → j ≤ v.length → RunL P G none 1 (loopAt P 30 0) (bsS v w b i j) (.exit 0) (bsX v w b (plcB b v)) := by
  intro n
  have he : ∀ i j, i ≤ plcB b v → plcB b v ≤ j → ¬ i < j → RunL P G none 1 (loopAt P 30 0) (bsS v w b i j) (.exit 0) (bsX v w b (plcB b v)) := fun i j h1 h2 hij => by
    have := bs_e v w b i j (by omega) trivial
    rwa [show i = plcB b v by omega] at this ⊢
  induction n with
  | zero => intro i j hn h1 h2 h3; exact he i j h1 h2 (by omega)
  | succ n ih =>
    intro i j hn h1 h2 h3
    by_cases hij : i < j
    · have hm := midV_eq (i := i) (j := j) (by omega)
      refine bs_w v w b i j ((i + j) / 2) h3 hv hm hm (by omega) _ _ ⟨fun _ => ?_, fun h => absurd (by omega) h⟩
      have hlt : (i + j) / 2 < v.length := by omega
      refine ⟨v[(i + j) / 2], ?_, fun hq => ?_, fun hq => ?_⟩
      · rw [hm, Int.toNat_natCast, Nat.zero_add, List.getElem?_append_left hlt]; exact List.getElem?_eq_getElem hlt
      · have := (plcB_lt hs hlt).1 ((inMap_lt _ _).1 hq)
        have nx := ih ((i + j) / 2 + 1) j (by omega) (by omega) h2 h3
        rw [hm]
        exact nx
      · have : ¬ (i + j) / 2 < plcB b v := fun h => hq ((inMap_lt _ _).2 ((plcB_lt hs hlt).2 h))
        have nx := ih i ((i + j) / 2) (by omega) h1 (by omega) (by omega)
        rw [hm]
        exact nx
    · exact he i j h1 h2 hij

theorem dl_n (v : List BE) (c : List Vec.D) (y : ByteArray) (hv : v.length ≤ 1000000000) (h0 : CallC P G 44 [.own 0 0 0 v.length, knF 1 2] [.arr 0 5 false (encs v), .box [str y], .box [Vec.vec c]] (.ret (int (-1))) [.arr 0 5 false (encs v), .box [str y], .box [Vec.vec c]]) (h : True) : CallC P G 23 [AV.own 0 0 0 (List.length v), knF 1 2] [AObj.arr 0 5 false (encs v), AObj.box [str y], AObj.box [Vec.vec c]] (AOut.ret (AV.own 0 0 0 (List.length v))) [AObj.arr 0 5 false (encs v), AObj.box [str y], AObj.box [Vec.vec c]] := by
  have hz1 : ∀ (x : List AV), x ∈ encs v → AV.idsInL [] x = true := (Go.Bd.encs_ids _)
  have _ := h
  exact callC_of [kc [0, 1, 2] (@h0 ), kp hz1, kp hz1, kt (Eq.refl true)] (by kernel_rfl)

def dlS (x : List BE) (c : List Vec.D) (y : ByteArray) (i j : Nat) : St := { env := slots 42 [(0, .own 0 0 0 x.length), (1, knF 1 2), (5, int i), (6, int j)], H := [.arr 0 5 false (encs x), .box [str y], .box [Vec.vec c]] }
def dlX (x : List BE) (c : List Vec.D) (y : ByteArray) (i : Nat) : St := { env := slots 42 [(0, .own 0 0 0 x.length), (5, int i)], H := [.arr 0 5 false (encs x), .box [str y], .box [Vec.vec c]] }

theorem dl_k (x : List BE) (c : List Vec.D) (y : ByteArray) (i j : Nat) (b : BE) (hi : i < j) (hx : x.length ≤ 1000000000) (hc : c.length ≤ 1000000000) (hb : x[0 + j]? = some b) (hj : (j : Int) < (x.length : Int)) (hp : knownB c y b = true) (ex : AEx) (s : St) (h : RunL P G none 3 (loopAt P 23 0) (St.mk (slots 42 [(0, AV.own 0 0 0 (List.length x)), (1, AV.fn (Fn.func 21) [] [AV.ptr 1 0, AV.ptr 2 0]), (5, int (↑i : Int)), (6, int (↑(j + 1) : Int))]) [AObj.arr 0 5 false (encs x), AObj.box [str y], AObj.box [AV.sl 2 false (Vec.encs c)]] []) ex s) : RunL P G none 3 (loopAt P 23 0) (dlS x c y i j) ex s := by
  have hz0 : 0 = 0 := (rfl)
  exact loop_next [kp hz0, kt (show decide ((↑j : Int) < (↑(List.length x) : Int)) = true from (decide_eq_true (by omega))), ko (Orc.elem (enc b)), kp hz0, kp (show (0 : Int) ≤ (↑j : Int) ∧ (↑j : Int) < (↑(List.length x) : Int) from (by omega)), kp hz0, kp (show (encs x)[0 + Int.toNat (↑j : Int)]? = some (enc b) from (el_get hb)), kc [1, 2] (@Go.Bd.kn_c (c) (y) (b) (by omega)), kf (show (!knownB c y b) = false from (congrArg Bool.not (hp))), kv 21 (show Am.Sub (int (IntKind.wrap IntKind.i64 ((↑j : Int) + 1))) (int (↑(j + 1) : Int)) from (Sub.of_wrap (by omega) (by omega) (by omega))), kp (show ∀ (x_1 : List AV), x_1 ∈ encs x → AV.idsInL [] x_1 = true from (Go.Bd.encs_ids _))] (others 42 [0, 1, 5, 6]) 3 h (by kernel_rfl)

theorem dl_m (x : List BE) (c : List Vec.D) (y : ByteArray) (i j : Nat) (b : BE) (hi : i < j) (hx : x.length ≤ 1000000000) (hc : c.length ≤ 1000000000) (hb : x[0 + j]? = some b) (hj : (j : Int) < (x.length : Int)) (hp : knownB c y b = false) (ex : AEx) (s : St) (h : (∃ x2 : BE, (x[0 + i]? = some x2) ∧ ((∀ (x_1 : List AV), x_1 ∈ List.set (encs x) (0 + Int.toNat (↑i : Int)) (splice (enc x2) 0 (List.take (TypeInfo.size (Tables.types (Program.toTables P))[26]) (List.drop 0 (splice (List.map AV.lit (Array.toList (Value.cells (Value.agg #[Value.string (ByteArray.mk #[]), Value.int IntKind.i64 0, Value.int IntKind.i64 0, Value.int IntKind.i64 0, Value.string (ByteArray.mk #[])])))) 0 (List.take (TypeInfo.size (Tables.types (Program.toTables P))[26]) (List.drop 0 (enc b))))))) → AV.idsInL [] x_1 = true) ∧ RunL P G none 3 (loopAt P 23 0) (St.mk (slots 42 [(0, AV.own 0 0 0 (List.length x)), (1, AV.fn (Fn.func 21) [] [AV.ptr 1 0, AV.ptr 2 0]), (5, int (↑(i + 1) : Int)), (6, int (↑(j + 1) : Int))]) [AObj.arr 0 5 false (List.set (encs x) (0 + i) [str (BE.ky b), int (BE.dv b), int (BE.sq b), int (BE.tm b), str (BE.vl b)]), AObj.box [str y], AObj.box [AV.sl 2 false (Vec.encs c)]] []) ex s))) : RunL P G none 3 (loopAt P 23 0) (dlS x c y i j) ex s := by
  have hz0 : 0 = 0 := (rfl)
  obtain ⟨x2, o3, h⟩ := h
  obtain ⟨o4, h⟩ := h
  exact loop_next [kp hz0, kt (show decide ((↑j : Int) < (↑(List.length x) : Int)) = true from (decide_eq_true (by omega))), ko (Orc.elem (enc b)), kp hz0, kp (show (0 : Int) ≤ (↑j : Int) ∧ (↑j : Int) < (↑(List.length x) : Int) from (by omega)), kp hz0, kp (show (encs x)[0 + Int.toNat (↑j : Int)]? = some (enc b) from (el_get hb)), kc [1, 2] (@Go.Bd.kn_c (c) (y) (b) (by omega)), kt (show (!knownB c y b) = true from (congrArg Bool.not (hp))), ko (Orc.elem (enc x2)), kp hz0, kp (show (0 : Int) ≤ (↑i : Int) ∧ (↑i : Int) < (↑(List.length x) : Int) from (by omega)), kp hz0, kp (show (encs x)[0 + Int.toNat (↑i : Int)]? = some (enc x2) from (el_get o3)), kv 35 (show Am.Sub (int (IntKind.wrap IntKind.i64 ((↑i : Int) + 1))) (int (↑(i + 1) : Int)) from (Sub.of_wrap (by omega) (by omega) (by omega))), kv 21 (show Am.Sub (int (IntKind.wrap IntKind.i64 ((↑j : Int) + 1))) (int (↑(j + 1) : Int)) from (Sub.of_wrap (by omega) (by omega) (by omega))), kp o4] (others 42 [0, 1, 5, 6]) 3 h (by kernel_rfl)

theorem dl_e (x : List BE) (c : List Vec.D) (y : ByteArray) (i j : Nat) (hj : ¬ (j : Int) < (x.length : Int)) (h : True) : RunL P G none 3 (loopAt P 23 0) (dlS x c y i j) (AEx.exit 0) (dlX x c y i) := by
  have _ := h
  exact loop_exit [kp (show 0 = 0 from (rfl)), kf (show decide ((↑j : Int) < (↑(List.length x) : Int)) = false from (decide_eq_false (by omega)))] (others 42 [0, 5]) 3 (by kernel_rfl)

theorem dl_f (v x : List BE) (c : List Vec.D) (y : ByteArray) (i k : Nat) (hx : x.length = v.length) (hi : i < v.length) (hk : k ≤ v.length) (hv : v.length ≤ 1000000000) (h0 : CallC P G 44 [.own 0 0 0 v.length, knF 1 2] [.arr 0 5 false (encs v), .box [str y], .box [Vec.vec c]] (.ret (int i)) [.arr 0 5 false (encs v), .box [str y], .box [Vec.vec c]]) (hL : RunL P G none 3 (loopAt P 23 0) (dlS v c y i (i + 1)) (.exit 0) (dlX x c y k)) (H' : List AObj) (h : ((0 + k + (List.length x - k) ≤ List.length (encs x)) ∧ [AObj.arr 0 5 false (List.take (0 + Int.toNat (↑k : Int)) (encs x) ++ (List.replicate (Int.toNat (↑(List.length x) : Int) - Int.toNat (↑k : Int)) [str (ByteArray.mk #[]), int 0, int 0, int 0, str (ByteArray.mk #[])] ++ List.drop (0 + Int.toNat (↑k : Int) + (Int.toNat (↑(List.length x) : Int) - Int.toNat (↑k : Int))) (encs x))), AObj.box [str y], AObj.box [AV.sl 2 false (Vec.encs c)]] = H')) : CallC P G 23 [AV.own 0 0 0 (List.length v), knF 1 2] [AObj.arr 0 5 false (encs v), AObj.box [str y], AObj.box [Vec.vec c]] (AOut.ret (AV.own 0 0 0 k)) H' := by
  have hz1 : ∀ (x : List AV), x ∈ encs v → AV.idsInL [] x = true := (Go.Bd.encs_ids _)
  have hz4 : 0 = 0 := (rfl)
  obtain ⟨o1, h⟩ := h
  have eH := h
  exact CallC.heap ((show CallC P G 23 [AV.own 0 0 0 (List.length v), knF 1 2] [AObj.arr 0 5 false (encs v), AObj.box [str y], AObj.box [Vec.vec c]] (AOut.ret (AV.own 0 0 0 (Int.toNat (↑k : Int) - 0))) [AObj.arr 0 5 false (List.take (0 + Int.toNat (↑k : Int)) (encs x) ++ (List.replicate (Int.toNat (↑(List.length x) : Int) - Int.toNat (↑k : Int)) [str (ByteArray.mk #[]), int 0, int 0, int 0, str (ByteArray.mk #[])] ++ List.drop (0 + Int.toNat (↑k : Int) + (Int.toNat (↑(List.length x) : Int) - Int.toNat (↑k : Int))) (encs x))), AObj.box [str y], AObj.box [AV.sl 2 false (Vec.encs c)]] from callC_of [kc [0, 1, 2] (@h0 ), kp hz1, kp hz1, kf (Eq.refl false), kv 15 (show Am.Sub (int (IntKind.wrap IntKind.i64 ((↑i : Int) + 1))) (int (↑(i + 1) : Int)) from (Sub.of_wrap (by omega) (by omega) (by omega))), kl [2, 3, 4, 7, 8, 9, 10, 11, 12, 13, 14, 15, 16, 17, 18, 19, 20, 21, 22, 23, 24, 25, 26, 27, 28, 29, 30, 31, 32, 33, 34, 35, 36, 37, 38, 39, 40, 41] 3 (@hL ), kp hz4, kp (show (0 : Int) ≤ (↑k : Int) ∧ (↑k : Int) ≤ (↑(List.length x) : Int) ∧ (↑(List.length x) : Int) ≤ (↑(List.length x) : Int) from (by omega)), kp hz4, kp o1, kp hz4, kp (show (0 : Int) ≤ (0 : Int) ∧ (0 : Int) ≤ (↑k : Int) ∧ (↑k : Int) ≤ (↑(List.length x) : Int) from (by omega))] (by kernel_rfl))) eH

theorem bin_c (v w : List BE) (b : BE) (hv : v.length ≤ 1000000000) (hs : v.Pairwise fun a c => lessB a c = true) : ∃ r, CallC P G 30 [.own 0 0 0 v.length, bel b, fnF 18] [.arr 0 5 false (encs (v ++ w))] (.ret (.tup [int (plcB b v), bool r])) [.arr 0 5 false (encs (v ++ w))] := by
  have hp := plcB_le b v
  have hL := bs_loop v w b hv hs _ 0 v.length (Nat.le_refl _) (by omega) hp (by omega)
  rcases Nat.lt_or_ge (plcB b v) v.length with h | h
  · refine ⟨inMapV v[plcB b v] b == 0, bsf_w v w b _ hp hv hL _ ⟨fun _ => ⟨v[plcB b v], ?_, rfl⟩, fun h' => absurd (by omega) h'⟩⟩
    rw [Nat.zero_add, List.getElem?_append_left h]; exact List.getElem?_eq_getElem h
  · exact ⟨false, bsf_w v w b _ hp hv hL _ ⟨fun h' => absurd h' (by omega), fun _ => rfl⟩⟩

theorem set_take {α : Type} (x : List α) (i : Nat) (a : α) (h : i < x.length) : (x.set i a).take (i + 1) = x.take i ++ [a] := by
  rw [List.take_set, List.take_add_one, List.getElem?_eq_getElem h, List.set_append_right _ _ (by rw [List.length_take]; omega)]
  simp [List.length_take, Nat.min_eq_left (Nat.le_of_lt h)]
theorem rest_app (a b : List BE) (c : List Vec.D) (y : ByteArray) : rest (a ++ b) c y = rest a c y ++ rest b c y := List.filter_append ..
theorem rest_one (b : BE) (c : List Vec.D) (y : ByteArray) : rest [b] c y = if knownB c y b = true then [] else [b] := by
  cases h : knownB c y b <;> simp [rest, h]
theorem dl_loop (v : List BE) (c : List Vec.D) (y : ByteArray) (hv : v.length ≤ 1000000000) (hc : c.length ≤ 1000000000) : ∀ n x i j, v.length - j = n → x.length = v.length → i < j → j ≤ v.length → i = (rest (v.take j) c y).length → x.take i = rest (v.take j) c y → x.drop j = v.drop j →
    ∃ x', x'.length = v.length ∧ x'.take (rest v c y).length = rest v c y ∧ RunL P G none 3 (loopAt P 23 0) (dlS x c y i j) (.exit 0) (dlX x' c y (rest v c y).length) := by
  intro n
  induction n with
  | zero =>
    intro x i j hn hx hij hj hi ht hd
    have ej : v.take j = v := List.take_of_length_le (by omega)
    rw [ej] at hi ht
    refine ⟨x, hx, by rw [← hi]; exact ht, ?_⟩
    rw [← hi]
    exact dl_e x c y i j (by omega) trivial
  | succ n ih =>
    intro x i j hn hx hij hj hi ht hd
    have hlt : j < v.length := by omega
    have hxj : x[j]? = some v[j] := by
      have := congrArg (fun l => l[0]?) hd
      simpa [List.getElem?_drop, hlt] using this
    have hdn : x.drop (j + 1) = v.drop (j + 1) := by
      have := congrArg (List.drop 1) hd
      simpa [List.drop_drop, Nat.add_comm] using this
    have htk : v.take (j + 1) = v.take j ++ [v[j]] := by rw [List.take_append_getElem]
    have hr : rest (v.take (j + 1)) c y = rest (v.take j) c y ++ (if knownB c y v[j] = true then [] else [v[j]]) := by
      rw [htk, rest_app, rest_one]
    cases hp : knownB c y v[j] with
    | true =>
      rw [hp, if_pos rfl, List.append_nil] at hr
      obtain ⟨x', h1, h2, h3⟩ := ih x i (j + 1) (by omega) hx (by omega) (by omega) (by rw [hr]; exact hi) (by rw [hr]; exact ht) hdn
      exact ⟨x', h1, h2, dl_k x c y i j _ hij (by omega) hc (by rw [Nat.zero_add]; exact hxj) (by omega) hp _ _ h3⟩
    | false =>
      rw [hp, if_neg (by decide)] at hr
      have hil : i < x.length := by omega
      obtain ⟨x', h1, h2, h3⟩ := ih (x.set i v[j]) (i + 1) (j + 1) (by omega) (by rw [List.length_set]; exact hx) (by omega) (by omega) (by rw [hr, List.length_append, List.length_singleton]; omega) (by rw [set_take x i _ hil, hr, ht]) (by rw [List.drop_set_of_lt (by omega)]; exact hdn)
      refine ⟨x', h1, h2, dl_m x c y i j _ hij (by omega) hc (by rw [Nat.zero_add]; exact hxj) (by omega) hp _ _ ⟨x[i], by rw [Nat.zero_add]; exact List.getElem?_eq_getElem hil, ?_, ?_⟩⟩
      · intro q hq
        rcases List.mem_or_eq_of_mem_set hq with h | h
        · exact encs_ids x q h
        · rw [h]; rfl
      · rw [Nat.zero_add]
        rw [show List.set (encs x) i [str v[j].ky, int v[j].dv, int v[j].sq, int v[j].tm, str v[j].vl] = encs (x.set i v[j]) from encs_set x i v[j]]
        have e : dlS (x.set i v[j]) c y (i + 1) (j + 1) = { env := slots 42 [(0, .own 0 0 0 x.length), (1, knF 1 2), (5, int ((i + 1 : Nat) : Int)), (6, int ((j + 1 : Nat) : Int))], H := [.arr 0 5 false (encs (x.set i v[j])), .box [str y], .box [Vec.vec c]] } := by rw [dlS, List.length_set]
        rw [e] at h3
        exact h3
def zeroB : BE := ⟨⟨#[]⟩, 0, 0, 0, ⟨#[]⟩⟩
theorem del_c (v : List BE) (c : List Vec.D) (y : ByteArray) (hv : v.length ≤ 1000000000) (hc : c.length ≤ 1000000000) : ∃ w, (rest v c y ++ w).length = v.length ∧ CallC P G 23 [.own 0 0 0 v.length, knF 1 2] [.arr 0 5 false (encs v), .box [str y], .box [Vec.vec c]] (.ret (.own 0 0 0 (rest v c y).length)) [.arr 0 5 false (encs (rest v c y ++ w)), .box [str y], .box [Vec.vec c]] := by
  have h0 := ixo_f v c y hv hc (ixV (knownB c y) 0 v) ⟨fun _ => rfl, fun h => by rw [ixV_none (by simpa using h)]⟩
  cases ha : v.any (knownB c y) with
  | false =>
    rw [ixV_none ha] at h0
    have e : rest v c y = v := by
      rw [rest, List.filter_eq_self]
      intro a hm
      rw [Bool.not_eq_true', Bool.eq_false_iff]
      exact List.any_eq_false.1 ha a hm
    rw [e]
    exact ⟨[], by simp, by rw [List.append_nil]; exact dl_n v c y hv h0 trivial⟩
  | true =>
    obtain ⟨i, b, e, hb, hp, hall⟩ := ixV_some (k := 0) ha
    rw [e, Nat.zero_add] at h0
    have hi : i < v.length := (List.getElem?_eq_some_iff.1 hb).1
    have hbe : v[i] = b := (List.getElem?_eq_some_iff.1 hb).2
    have hr : rest (v.take (i + 1)) c y = v.take i := by
      rw [← List.take_append_getElem hi, rest, List.filter_append, List.filter_eq_self.2 (fun a hm => by rw [hall a hm]; rfl), hbe]
      simp [hp]
    obtain ⟨x, h1, h2, h3⟩ := dl_loop v c y hv hc _ v i (i + 1) rfl rfl (by omega) (by omega) (by rw [hr, List.length_take]; omega) hr.symm rfl
    have hk : (rest v c y).length ≤ v.length := List.length_filter_le _ _
    refine ⟨List.replicate (v.length - (rest v c y).length) zeroB, by rw [List.length_append, List.length_replicate]; omega, ?_⟩
    refine dl_f v x c y i (rest v c y).length h1 hi hk hv h0 h3 _ ⟨by rw [encs_length]; omega, ?_⟩
    have e1 : List.drop (0 + Int.toNat ((rest v c y).length : Int) + (Int.toNat (x.length : Int) - Int.toNat ((rest v c y).length : Int))) (encs x) = [] := List.drop_eq_nil_of_le (by rw [encs_length]; omega)
    have e2 : List.take (0 + Int.toNat ((rest v c y).length : Int)) (encs x) = encs (rest v c y) := by rw [Nat.zero_add, Int.toNat_natCast, encs_take, h2]
    have e3 : List.replicate (Int.toNat (x.length : Int) - Int.toNat ((rest v c y).length : Int)) [str (ByteArray.mk #[]), int 0, int 0, int 0, str (ByteArray.mk #[])] = encs (List.replicate (v.length - (rest v c y).length) zeroB) := by
      rw [Int.toNat_natCast, Int.toNat_natCast, h1, encs, List.map_replicate]; rfl
    rw [e1, e2, e3, List.append_nil, encs_append]
    rfl

end Go.Bd

/- BINDS, 12: Clone, Drop. -/
namespace Go.Bd
set_option maxRecDepth 100000
set_option linter.unusedSimpArgs false
set_option linter.unusedVariables false
open Go Go.Am Go.Proofs Go.Seat

theorem take_app (t w : List BE) : List.take t.length (List.drop 0 (encs (t ++ w))) = encs t := by
  rw [List.drop_zero, encs_take, List.take_left]

theorem drop_o (v w : List BE) (c : List Vec.D) (k : ByteArray) (n : Nat) (hv : v.length ≤ 1000000000) (h0 : CallC P G 7 [bes v] [] (.ret (int 0)) []) (h1 : CallC P G 20 [Vec.vec c] [] (.ret (int 0)) []) (h2 : CallC P G 24 [bes v] [] (.ret (.own 0 0 0 v.length)) [.arr 0 5 false (encs v)]) (h3 : CallC P G 23 [.own 0 0 0 v.length, knF 1 2] [.arr 0 5 false (encs v), .box [str k], .box [Vec.vec c]] (.ret (.own 0 0 0 n)) [.arr 0 5 false (encs w), .box [str k], .box [Vec.vec c]]) (h : True) : CallC P G 9 [bes v, Vec.vec c, str k] [] (AOut.ret (AV.tup [AV.own 2 0 0 n, int 0])) [AObj.gone, AObj.gone, AObj.arr 0 5 false (encs w)] := by
  have hz3 : ∀ (x : List AV), x ∈ encs v → AV.idsInL [] x = true := (Go.Bd.encs_ids _)
  have _ := h
  exact CallC.heapSub ((show CallC P G 9 [bes v, Vec.vec c, str k] [] (AOut.ret (AV.tup [AV.own 2 0 0 n, int 0])) [AObj.box [AV.sl 2 false (Vec.encs c)], AObj.box [str k], AObj.arr 0 5 false (encs w)] from callC_of [kc [] (@h0 ), kf (Eq.refl false), kc [] (@h1 ), kf (Eq.refl false), kc [] (@h2 ), kp hz3, kc [2, 1, 0] (@h3 ), kp (show ∀ (x : List AV), x ∈ encs w → AV.idsInL [] x = true from (Go.Bd.encs_ids _)), kp hz3] (by kernel_rfl))) (by exact ⟨.inr trivial, .inr trivial, .inl rfl, trivial⟩)

theorem drop_d (v w : List BE) (c : List Vec.D) (k : ByteArray) (t : List BE) (hv : v.length ≤ 1000000000) (h0 : CallC P G 7 [bes v] [] (.ret (int 0)) []) (h1 : CallC P G 20 [Vec.vec c] [] (.ret (int 0)) []) (h2 : CallC P G 24 [bes v] [] (.ret (.own 0 0 0 v.length)) [.arr 0 5 false (encs v)]) (h3 : CallC P G 23 [.own 0 0 0 v.length, knF 1 2] [.arr 0 5 false (encs v), .box [str k], .box [Vec.vec c]] (.ret (.own 0 0 0 t.length)) [.arr 0 5 false (encs (t ++ w)), .box [str k], .box [Vec.vec c]]) (h : True) : CallC P G 9 [bes v, Vec.vec c, str k] [] (AOut.ret (AV.tup [bes t, int 0])) [] := by
  have hz3 : ∀ (x : List AV), x ∈ encs v → AV.idsInL [] x = true := (Go.Bd.encs_ids _)
  have _ := h
  exact callC_of [kc [] (@h0 ), kf (Eq.refl false), kc [] (@h1 ), kf (Eq.refl false), kc [] (@h2 ), kp hz3, kc [2, 1, 0] (@h3 ), ko (Orc.frz (encs t)), kp (show ∀ (x : List AV), x ∈ encs (t ++ w) → AV.idsInL [] x = true from (Go.Bd.encs_ids _)), kp hz3, kp (show 0 = 0 from (rfl)), kp (show List.take (List.length t) (List.drop 0 (encs (t ++ w))) = encs t from (Go.Bd.take_app _ _)), kp (show List.length (encs t) = List.length t from (Go.Bd.encs_length _)), kp (show ∀ (c : List AV), c ∈ encs t → List.all c AV.pureB = true from (Go.Bd.encs_pure _))] (by kernel_rfl)

theorem drop_a (v : List BE) (c : List Vec.D) (k : ByteArray) (e : Int) (h0 : CallC P G 7 [bes v] [] (.ret (int e)) []) (he : e ≠ 0) (h : True) : CallC P G 9 [bes v, Vec.vec c, str k] [] (AOut.ret (AV.tup [bes [], int e])) [] := by
  have _ := h
  exact CallC.out ((show CallC P G 9 [bes v, Vec.vec c, str k] [] (AOut.ret (AV.tup [nilS, int e])) [] from callC_of [kc [] (@h0 ), kt (show (e != 0) = true from (congrArg Bool.not (decide_eq_false (by omega))))] (by kernel_rfl))) (Sub.tups ⟨Sub.nil _, Sub.refl _, trivial⟩)

theorem drop_b (v : List BE) (c : List Vec.D) (k : ByteArray) (e : Int) (h0 : CallC P G 7 [bes v] [] (.ret (int 0)) []) (h1 : CallC P G 20 [Vec.vec c] [] (.ret (int e)) []) (he : e ≠ 0) (h : True) : CallC P G 9 [bes v, Vec.vec c, str k] [] (AOut.ret (AV.tup [bes [], int e])) [] := by
  have _ := h
  exact CallC.out ((show CallC P G 9 [bes v, Vec.vec c, str k] [] (AOut.ret (AV.tup [nilS, int e])) [] from callC_of [kc [] (@h0 ), kf (Eq.refl false), kc [] (@h1 ), kt (show (e != 0) = true from (congrArg Bool.not (decide_eq_false (by omega))))] (by kernel_rfl))) (Sub.tups ⟨Sub.nil _, Sub.refl _, trivial⟩)

theorem ixz_l (c : List Vec.D) (y : ByteArray) (h : True) : RunL P G none 2 (loopAt P 44 0) (St.mk (slots 19 [(0, AV.sl 5 true []), (1, knF 0 1), (4, int 0), (6, AV.sl 5 true []), (7, int 0), (8, int 0)]) [AObj.box [str y], AObj.box [Vec.vec c]] []) (AEx.exit 0) (St.mk (slots 19 [(4, int 0)]) [AObj.box [str y], AObj.box [Vec.vec c]] []) := by
  have _ := h
  exact loop_exit [kf (Eq.refl false)] (others 19 [4]) 2 (by kernel_rfl)

theorem ixz_f (c : List Vec.D) (y : ByteArray) (hL : RunL P G none 2 (loopAt P 44 0) { env := slots 19 [(0, .sl 5 true []), (1, knF 0 1), (4, int 0), (6, .sl 5 true []), (7, int 0), (8, int 0)], H := [.box [str y], .box [Vec.vec c]] } (.exit 0) { env := slots 19 [(4, int 0)], H := [.box [str y], .box [Vec.vec c]] }) (h : True) : CallC P G 44 [AV.sl 5 true [], knF 0 1] [AObj.box [str y], AObj.box [Vec.vec c]] (AOut.ret (int (-1))) [AObj.box [str y], AObj.box [Vec.vec c]] := by
  have _ := h
  exact callC_of [kl [2, 3, 5, 9, 10, 11, 12, 13, 14, 15, 16, 17, 18] 2 (@hL )] (by kernel_rfl)

theorem clz_n (n : Nat) (h : Sub (nilS) (AV.sl 5 true [])) : CallC P G 24 [AV.lit (Value.slice none 0 n)] [] (AOut.ret (AV.sl 5 true [])) [] := by
  have e1 := h
  exact CallC.out ((show CallC P G 24 [AV.lit (Value.slice none 0 n)] [] (AOut.ret nilS) [] from callC_of [kt (Eq.refl true)] (by kernel_rfl))) e1

theorem clz_a (a : Addr) (n : Nat) (h : True) : CallC P G 24 [AV.lit (Value.slice (some a) 0 n)] [] (AOut.ret (AV.sl 5 true [])) [] := by
  have _ := h
  exact callC_of [kf (Eq.refl false), ko (Orc.emp), kp (show [] = [] from (Am.nil_nil))] (by kernel_rfl)

theorem dlz_f (c : List Vec.D) (y : ByteArray) (hI : CallC P G 44 [.sl 5 true [], knF 0 1] [.box [str y], .box [Vec.vec c]] (.ret (int (-1))) [.box [str y], .box [Vec.vec c]]) (h : True) : CallC P G 23 [AV.sl 5 true [], knF 0 1] [AObj.box [str y], AObj.box [Vec.vec c]] (AOut.ret (AV.sl 5 true [])) [AObj.box [str y], AObj.box [Vec.vec c]] := by
  have _ := h
  exact callC_of [kc [0, 1] (@hI ), kt (Eq.refl true)] (by kernel_rfl)

theorem drop_z (c : List Vec.D) (k : ByteArray) (h0 : CallC P G 7 [bes []] [] (.ret (int 0)) []) (h1 : CallC P G 20 [Vec.vec c] [] (.ret (int 0)) []) (h2 : CallC P G 24 [bes []] [] (.ret (.sl 5 true [])) []) (h3 : CallC P G 23 [.sl 5 true [], knF 0 1] [.box [str k], .box [Vec.vec c]] (.ret (.sl 5 true [])) [.box [str k], .box [Vec.vec c]]) (h : True) : CallC P G 9 [bes [], Vec.vec c, str k] [] (AOut.ret (AV.tup [AV.sl 5 true [], int 0])) [] := by
  have _ := h
  exact callC_of [kc [] (@h0 ), kf (Eq.refl false), kc [] (@h1 ), kf (Eq.refl false), kc [] (@h2 ), kc [1, 0] (@h3 )] (by kernel_rfl)

theorem nilT (sz : Nat) : Sub (.lit (.slice none 0 0)) (.sl sz true []) := fun V v h => by
  rw [rep_lit h]
  exact .pure _ _ (.sl sz true [] none 0 0 0 (fun _ _ => undef) (fun h => absurd rfl h) (fun h => absurd rfl h) (Nat.le_refl _) (fun _ => rfl) (fun x hx => by cases hx) (fun k j hk => absurd hk (Nat.not_lt_zero _)) (fun k j hk => absurd hk (Nat.not_lt_zero _)) fun k j hk => absurd hk (Nat.not_lt_zero _))
theorem clone_z : CallC P G 24 [bes []] [] (.ret (.sl 5 true [])) [] := CallC.slEmpty (fun cap => clz_n cap (nilT 5)) fun a cap => clz_a a cap trivial
theorem clone_c (v : List BE) (hv : v.length ≤ 1000000000) (hne : v ≠ []) : CallC P G 24 [bes v] [] (.ret (.own 0 0 0 v.length)) [.arr 0 5 false (encs v)] := cl_w v hv (fun h => hne (by simpa [encs] using h)) trivial
theorem drop_e (c : List Vec.D) (k : ByteArray) (hc : c.length ≤ 10000000) (h1 : Vec.checkE c = 0) : CallC P G 9 [bes [], Vec.vec c, str k] [] (.ret (.tup [.sl 5 true [], int 0])) [] := by
  have h0 := check_c [] (by simp)
  have h2 := Vec.check_c c (by omega)
  rw [h1] at h2
  exact drop_z c k h0 h2 clone_z (dlz_f c k (ixz_f c k (ixz_l c k trivial) trivial) trivial) trivial
theorem drop_own (v : List BE) (c : List Vec.D) (k : ByteArray) (hv : v.length ≤ 10000000) (hne : v ≠ []) (hc : c.length ≤ 10000000) (e0 : chkE v = 0) (h1 : Vec.checkE c = 0) : ∃ w, CallC P G 9 [bes v, Vec.vec c, str k] [] (.ret (.tup [.own 2 0 0 (rest v c k).length, int 0])) [.gone, .gone, .arr 0 5 false (encs (rest v c k ++ w))] := by
  have h0 := check_c v (by omega)
  have h2 := Vec.check_c c (by omega)
  rw [h1] at h2
  rw [e0] at h0
  obtain ⟨w, _, h3⟩ := del_c v c k (by omega) (by omega)
  exact ⟨w, drop_o v _ c k _ (by omega) h0 h2 (clone_c v (by omega) hne) h3 trivial⟩
theorem drop_c (v : List BE) (c : List Vec.D) (k : ByteArray) (hv : v.length ≤ 10000000) (hc : c.length ≤ 10000000) : CallC P G 9 [bes v, Vec.vec c, str k] [] (.ret (.tup [bes (dropR v c k).1, int (dropR v c k).2])) [] := by
  have h0 := check_c v (by omega)
  have h2 := Vec.check_c c (by omega)
  unfold dropR
  by_cases e0 : chkE v = 0
  · rw [if_pos e0]
    rw [e0] at h0
    by_cases e1 : Vec.checkE c = 0
    · rw [if_pos e1]; rw [e1] at h2
      by_cases hne : v = []
      · subst hne
        exact (drop_e c k hc e1).out (.tup2 (.loose 5 true []) (.refl _))
      · obtain ⟨w, _, h3⟩ := del_c v c k (by omega) (by omega)
        exact drop_d v w c k _ (by omega) h0 h2 (clone_c v (by omega) hne) h3 trivial
    · rw [if_neg e1]
      exact drop_b v c k _ h0 h2 e1 trivial
  · rw [if_neg e0]
    exact drop_a v c k _ h0 e0 trivial

end Go.Bd
