import Derived.Test.YtkckmpmlbmdalaaDoorQ10
import Derived.Laws.Strings
import Derived.KernelRfl
/- CODEC, 0: how its data stand in the abstract machine. -/
namespace Go.Cdc
set_option maxRecDepth 100000
set_option linter.unusedSimpArgs false
set_option linter.unusedVariables false
open Go Go.Am Go.Proofs Go.Seat

/-- A value of the codec. -/
inductive CV where
  | mk (k n : Int) (s : ByteArray) (l : List CV)
instance : Inhabited CV := ⟨.mk 0 0 .empty []⟩
def CV.k : CV → Int | .mk k _ _ _ => k
def CV.n : CV → Int | .mk _ n _ _ => n
def CV.s : CV → ByteArray | .mk _ _ s _ => s
def CV.l : CV → List CV | .mk _ _ _ l => l
mutual
def CV.cells : CV → List AV
  | .mk k n s l => [int k, int n, str s, .sl 4 false (encL l)]
def encL : List CV → List (List AV)
  | [] => []
  | v :: l => v.cells :: encL l
end
def enc (v : CV) : List AV := [int v.k, int v.n, str v.s, .sl 4 false (encL v.l)]
theorem cells_eq (v : CV) : v.cells = enc v := by cases v; simp [CV.cells, enc, CV.k, CV.n, CV.s, CV.l]
theorem encL_map : ∀ l : List CV, encL l = l.map enc
  | [] => by simp [encL]
  | v :: l => by simp [encL, encL_map l, cells_eq]
def val (v : CV) : AV := .agg (enc v)
theorem encL_length (l : List CV) : (encL l).length = l.length := by simp [encL_map]
theorem encL_append (a b : List CV) : encL a ++ encL b = encL (a ++ b) := by simp [encL_map]
theorem encL_one (v : CV) : [enc v] = encL [v] := by simp [encL_map]
theorem encL_drop (v : List CV) (n : Nat) : List.drop n (encL v) = encL (v.drop n) := by simp [encL_map]
theorem encL_take (v : List CV) (n : Nat) : List.take n (encL v) = encL (v.take n) := by simp [encL_map]
theorem encL_pure (v : List CV) : ∀ c ∈ encL v, c.all AV.pureB = true := by
  intro c hc
  rw [encL_map] at hc
  obtain ⟨d, _, rfl⟩ := List.mem_map.1 hc
  rfl
theorem encL_all (v : List CV) : List.take v.length (List.drop 0 (encL v)) = encL v := by rw [← encL_length v]; simp

/-- Two strings compared. -/
theorem str_eq (a b : ByteArray) : (ByteArray.toList a == ByteArray.toList b) = decide (a = b) := by
  rw [ByteArray.toList_eq, ByteArray.toList_eq]
  by_cases h : a = b
  · subst h; simp
  · rw [decide_eq_false h]
    refine beq_eq_false_iff_ne.2 fun e => h (ByteArray.ext (Array.toList_inj.1 e))
/-- A value's words, its parts apart. -/
abbrev vmk (k n : Int) (s : ByteArray) (l : List CV) : AV := .agg [int k, int n, str s, .sl 4 false (encL l)]
theorem val_mk (k n : Int) (s : ByteArray) (l : List CV) : val (.mk k n s l) = vmk k n s l := rfl

/-! Bytes -/
abbrev u8 (c : UInt8) : AV := .lit (.int .u8 c.toNat)
def byt1 (c : UInt8) : List AV := [u8 c]
def bys (l : List UInt8) : List (List AV) := l.map byt1
def byt (l : List UInt8) : AV := .sl 1 false (bys l)
theorem bys_length (l : List UInt8) : (bys l).length = l.length := by simp [bys]
theorem strB_ids (s : ByteArray) : ∀ c ∈ s.data.toList.map (fun c => [AV.lit (Value.int IntKind.u8 (c.toNat : Int))]), AV.idsInL [] c = true := by
  intro c hc
  obtain ⟨d, _, rfl⟩ := List.mem_map.1 hc
  rfl
theorem strB_pure (s : ByteArray) : ∀ c ∈ s.data.toList.map (fun c => [AV.lit (Value.int IntKind.u8 (c.toNat : Int))]), c.all AV.pureB = true := by
  intro c hc
  obtain ⟨d, _, rfl⟩ := List.mem_map.1 hc
  rfl
theorem bdata_length (s : ByteArray) : s.data.toList.length = s.size := rfl
theorem bys_append (a b : List UInt8) : bys a ++ bys b = bys (a ++ b) := by simp [bys]
theorem bys_drop (v : List UInt8) (n : Nat) : List.drop n (bys v) = bys (v.drop n) := by simp [bys]
theorem bys_take (v : List UInt8) (n : Nat) : List.take n (bys v) = bys (v.take n) := by simp [bys]
theorem bys_pure (v : List UInt8) : ∀ c ∈ bys v, c.all AV.pureB = true := by
  intro c hc
  obtain ⟨d, _, rfl⟩ := List.mem_map.1 hc
  rfl
theorem bys_ids (v : List UInt8) : ∀ c ∈ bys v, AV.idsInL [] c = true := by
  intro c hc
  obtain ⟨d, _, rfl⟩ := List.mem_map.1 hc
  rfl
abbrev u64 (n : Nat) : AV := .lit (.int .u64 n)
/-- The reader, its box at 0. -/
def rdr (l : List UInt8) : List AObj := [.box [byt l]]
def badErr : AV := .ifc 33 (int 10)
end Go.Cdc

/- OPS, 1: operations as data; what an operation knows; its kind's fields, in both packages. -/
namespace Go.Ops
set_option maxRecDepth 100000
set_option linter.unusedSimpArgs false
set_option linter.unusedVariables false
open Go Go.Am Go.Proofs Go.Seat Go.Vec Go.Cdc

/-- An operation. -/
structure OP where
  dv : Int
  sq : Int
  tm : Int
  cx : List D
  pk : Int
  pn : ByteArray
  kd : Int
  f1 : Int
  f2 : Int
  f3 : Int
  t1 : Int
  t2 : Int
  t3 : Int
  ky : ByteArray
  vl : ByteArray
  n : Int
  on : Bool
  deriving DecidableEq
def opc (o : OP) : List AV := [int o.dv, int o.sq, int o.tm, vec o.cx, int o.pk, str o.pn, int o.kd, int o.f1, int o.f2, int o.f3, int o.t1, int o.t2, int o.t3, str o.ky, str o.vl, int o.n, bool o.on]
def op (o : OP) : AV := .agg (opc o)
def opk (o : OP) (k : Int) : AV := .agg [int o.dv, int o.sq, int o.tm, vec o.cx, int o.pk, str o.pn, int k, int o.f1, int o.f2, int o.f3, int o.t1, int o.t2, int o.t3, str o.ky, str o.vl, int o.n, bool o.on]
theorem opk_op (o : OP) (k : Int) (h : o.kd = k) : opk o k = op o := by subst h; rfl
abbrev ida (a b c : Int) : AV := .agg [int a, int b, int c]

/-! What is known -/
def idB (a b c : Int) : Bool := decide (a ≥ 0) && decide (a < 512) && decide (b ≥ 1) && decide (b ≤ 1048576) && decide (c ≥ 0) && decide (c ≤ 63)
def knowsB (o : OP) (a b c : Int) : Bool := idB a b c && (coversB o.cx (a, b) || (decide (a = o.dv) && decide (b < o.sq)))

theorem knows_w (o : OP) (a b c : Int) (hc : o.cx.length ≤ 1000000000) (h : (((a < (0 : Int)) → (false) = (knowsB o a b c)) ∧ ((¬a < (0 : Int)) → (((a ≥ (512 : Int)) → (false) = (knowsB o a b c)) ∧ ((¬a ≥ (512 : Int)) → (((b < (1 : Int)) → (false) = (knowsB o a b c)) ∧ ((¬b < (1 : Int)) → (((b > (1048576 : Int)) → (false) = (knowsB o a b c)) ∧ ((¬b > (1048576 : Int)) → (((c < (0 : Int)) → (false) = (knowsB o a b c)) ∧ ((¬c < (0 : Int)) → (((c > (63 : Int)) → (false) = (knowsB o a b c)) ∧ ((¬c > (63 : Int)) → ((((coversB (OP.cx o) (a, b)) = true) → (true) = (knowsB o a b c)) ∧ (((coversB (OP.cx o) (a, b)) = false) → (((a = OP.dv o) → (decide (b < OP.sq o)) = (knowsB o a b c)) ∧ ((¬a = OP.dv o) → (false) = (knowsB o a b c)))))))))))))))))) : CallC P G 118 [op o, ida a b c] [] (AOut.ret (Am.bool (knowsB o a b c))) [] := by
  by_cases c1 : (a < (0 : Int))
  · have h := h.1 c1
    have e1 := h
    exact callC_out (Sub.bool_eq e1) [kt (decide_eq_true c1), kt (Eq.refl true), kt (Eq.refl true), kt (Eq.refl true), kt (Eq.refl true), kt (Eq.refl true)] (by kernel_rfl)
  · have h := h.2 c1
    by_cases c2 : (a ≥ (512 : Int))
    · have h := h.1 c2
      have e1 := h
      exact callC_out (Sub.bool_eq e1) [kf (decide_eq_false c1), kt (decide_eq_true c2), kt (Eq.refl true), kt (Eq.refl true), kt (Eq.refl true), kt (Eq.refl true)] (by kernel_rfl)
    · have h := h.2 c2
      by_cases c3 : (b < (1 : Int))
      · have h := h.1 c3
        have e1 := h
        exact callC_out (Sub.bool_eq e1) [kf (decide_eq_false c1), kf (decide_eq_false c2), kt (decide_eq_true c3), kt (Eq.refl true), kt (Eq.refl true), kt (Eq.refl true)] (by kernel_rfl)
      · have h := h.2 c3
        by_cases c4 : (b > (1048576 : Int))
        · have h := h.1 c4
          have e1 := h
          exact callC_out (Sub.bool_eq e1) [kf (decide_eq_false c1), kf (decide_eq_false c2), kf (decide_eq_false c3), kt (decide_eq_true c4), kt (Eq.refl true), kt (Eq.refl true)] (by kernel_rfl)
        · have h := h.2 c4
          by_cases c5 : (c < (0 : Int))
          · have h := h.1 c5
            have e1 := h
            exact callC_out (Sub.bool_eq e1) [kf (decide_eq_false c1), kf (decide_eq_false c2), kf (decide_eq_false c3), kf (decide_eq_false c4), kt (decide_eq_true c5), kt (Eq.refl true)] (by kernel_rfl)
          · have h := h.2 c5
            by_cases c6 : (c > (63 : Int))
            · have h := h.1 c6
              have e1 := h
              exact callC_out (Sub.bool_eq e1) [kf (decide_eq_false c1), kf (decide_eq_false c2), kf (decide_eq_false c3), kf (decide_eq_false c4), kf (decide_eq_false c5), kt (decide_eq_true c6)] (by kernel_rfl)
            · have h := h.2 c6
              have hz0 := (@Go.Vec.covers_c (OP.cx o) (a) (b) (by omega))
              rcases Bool.eq_false_or_eq_true ((coversB (OP.cx o) (a, b))) with c7 | c7
              · have h := h.1 c7
                have e1 := h
                exact callC_out (Sub.bool_eq e1) [kf (decide_eq_false c1), kf (decide_eq_false c2), kf (decide_eq_false c3), kf (decide_eq_false c4), kf (decide_eq_false c5), kf (decide_eq_false c6), kc [] hz0, kt c7] (by kernel_rfl)
              · have h := h.2 c7
                by_cases c8 : (a = OP.dv o)
                · have h := h.1 c8
                  have e1 := h
                  exact callC_out (Sub.bool_eq e1) [kf (decide_eq_false c1), kf (decide_eq_false c2), kf (decide_eq_false c3), kf (decide_eq_false c4), kf (decide_eq_false c5), kf (decide_eq_false c6), kc [] hz0, kf c7, kt (beq_iff_eq.2 c8)] (by kernel_rfl)
                · have h := h.2 c8
                  have e1 := h
                  exact callC_out (Sub.bool_eq e1) [kf (decide_eq_false c1), kf (decide_eq_false c2), kf (decide_eq_false c3), kf (decide_eq_false c4), kf (decide_eq_false c5), kf (decide_eq_false c6), kc [] hz0, kf c7, kf (beq_eq_false_iff_ne.2 c8)] (by kernel_rfl)

theorem knows_c (o : OP) (a b c : Int) (hc : o.cx.length ≤ 1000000000) : CallC P G 118 [op o, ida a b c] [] (.ret (bool (knowsB o a b c))) [] := knows_w o a b c hc (by
  unfold knowsB idB
  repeat' (first | refine And.intro ?_ ?_ | intro _)
  all_goals grind)

def beginsB (o : OP) : Bool := (decide (o.f1 = 0) && decide (o.f2 = 0) && decide (o.f3 = 0)) || knowsB o o.f1 o.f2 o.f3

theorem begins_w (o : OP) (hc : o.cx.length ≤ 1000000000) (h : ((((OP.f1 o == 0 && (OP.f2 o == 0 && OP.f3 o == 0)) = true) → (true) = (beginsB o)) ∧ (((OP.f1 o == 0 && (OP.f2 o == 0 && OP.f3 o == 0)) = false) → (knowsB o (OP.f1 o) (OP.f2 o) (OP.f3 o)) = (beginsB o)))) : CallC P G 116 [op o] [] (AOut.ret (Am.bool (beginsB o))) [] := by
  rcases Bool.eq_false_or_eq_true ((OP.f1 o == 0 && (OP.f2 o == 0 && OP.f3 o == 0))) with c1 | c1
  · have h := h.1 c1
    have e1 := h
    exact callC_out (Sub.bool_eq e1) [kt c1] (by kernel_rfl)
  · have h := h.2 c1
    have e1 := h
    exact callC_out (Sub.bool_eq e1) [kf c1, kc [] (@Go.Ops.knows_c (o) (OP.f1 o) (OP.f2 o) (OP.f3 o) (by omega))] (by kernel_rfl)

theorem begins_c (o : OP) (hc : o.cx.length ≤ 1000000000) : CallC P G 116 [op o] [] (.ret (bool (beginsB o))) [] := begins_w o hc (by
  unfold beginsB
  grind)

/-! Fields -/
def fieldsB (o : OP) : Int → Bool
  | 1 => beginsB o && decide ((o.vl.size : Int) ≤ 4096)
  | 2 => knowsB o o.f1 o.f2 o.f3
  | 3 => decide ((o.ky.size : Int) ≤ 64) && decide ((o.vl.size : Int) ≤ 4096)
  | 4 => decide ((o.ky.size : Int) ≤ 64)
  | 5 => decide (o.n ≥ -1125899906842624) && decide (o.n ≤ 1125899906842624)
  | 6 => beginsB o && decide ((o.vl.size : Int) ≥ 1) && decide ((o.vl.size : Int) ≤ 64)
  | 7 => knowsB o o.f1 o.f2 o.f3 && decide (o.n ≥ 1) && decide (o.n ≤ 64 - o.f3)
  | 8 => knowsB o o.f1 o.f2 o.f3 && knowsB o o.t1 o.t2 o.t3 && decide (o.n ≥ 0) && decide (o.n ≤ 15)
  | _ => false

theorem k1_w (o : OP) (hc : o.cx.length ≤ 1000000000) (h : ((((beginsB o) = true) → (decide ((↑(ByteArray.size (OP.vl o)) : Int) ≤ (4096 : Int))) = (fieldsB o 1)) ∧ (((beginsB o) = false) → (false) = (fieldsB o 1)))) : CallC P G 115 [op o] [] (AOut.ret (Am.bool (fieldsB o 1))) [] := by
  have hz0 := (@Go.Ops.begins_c (o) (by omega))
  rcases Bool.eq_false_or_eq_true ((beginsB o)) with c1 | c1
  · have h := h.1 c1
    have e1 := h
    exact callC_out (Sub.bool_eq e1) [kc [] hz0, kt c1] (by kernel_rfl)
  · have h := h.2 c1
    have e1 := h
    exact callC_out (Sub.bool_eq e1) [kc [] hz0, kf c1] (by kernel_rfl)

theorem k2_w (o : OP) (hc : o.cx.length ≤ 1000000000) (h : True) : CallC P G 117 [op o] [] (AOut.ret (Am.bool (fieldsB o 2))) [] := by
  have _ := h
  exact callC_of [kc [] (@Go.Ops.knows_c (o) (OP.f1 o) (OP.f2 o) (OP.f3 o) (by omega))] (by kernel_rfl)

theorem k3_w (o : OP) (h : ((((↑(ByteArray.size (OP.ky o)) : Int) ≤ (64 : Int)) → (decide ((↑(ByteArray.size (OP.vl o)) : Int) ≤ (4096 : Int))) = (fieldsB o 3)) ∧ ((¬(↑(ByteArray.size (OP.ky o)) : Int) ≤ (64 : Int)) → (false) = (fieldsB o 3)))) : CallC P G 119 [op o] [] (AOut.ret (Am.bool (fieldsB o 3))) [] := by
  by_cases c1 : ((↑(ByteArray.size (OP.ky o)) : Int) ≤ (64 : Int))
  · have h := h.1 c1
    have e1 := h
    exact callC_out (Sub.bool_eq e1) [kt (decide_eq_true c1)] (by kernel_rfl)
  · have h := h.2 c1
    have e1 := h
    exact callC_out (Sub.bool_eq e1) [kf (decide_eq_false c1)] (by kernel_rfl)

theorem k4_w (o : OP) (h : True) : CallC P G 120 [op o] [] (AOut.ret (Am.bool (fieldsB o 4))) [] := by
  have _ := h
  exact callC_of [] (by kernel_rfl)

theorem k5_w (o : OP) (h : (((OP.n o ≥ (-1125899906842624 : Int)) → (decide (OP.n o ≤ (1125899906842624 : Int))) = (fieldsB o 5)) ∧ ((¬OP.n o ≥ (-1125899906842624 : Int)) → (false) = (fieldsB o 5)))) : CallC P G 121 [op o] [] (AOut.ret (Am.bool (fieldsB o 5))) [] := by
  by_cases c1 : (OP.n o ≥ (-1125899906842624 : Int))
  · have h := h.1 c1
    have e1 := h
    exact callC_out (Sub.bool_eq e1) [kt (decide_eq_true c1)] (by kernel_rfl)
  · have h := h.2 c1
    have e1 := h
    exact callC_out (Sub.bool_eq e1) [kf (decide_eq_false c1)] (by kernel_rfl)

theorem k6_w (o : OP) (hc : o.cx.length ≤ 1000000000) (h : ((((beginsB o) = true) → ((((↑(ByteArray.size (OP.vl o)) : Int) ≥ (1 : Int)) → (decide ((↑(ByteArray.size (OP.vl o)) : Int) ≤ (64 : Int))) = (fieldsB o 6)) ∧ ((¬(↑(ByteArray.size (OP.vl o)) : Int) ≥ (1 : Int)) → (false) = (fieldsB o 6)))) ∧ (((beginsB o) = false) → (false) = (fieldsB o 6)))) : CallC P G 122 [op o] [] (AOut.ret (Am.bool (fieldsB o 6))) [] := by
  have hz0 := (@Go.Ops.begins_c (o) (by omega))
  rcases Bool.eq_false_or_eq_true ((beginsB o)) with c1 | c1
  · have h := h.1 c1
    by_cases c2 : ((↑(ByteArray.size (OP.vl o)) : Int) ≥ (1 : Int))
    · have h := h.1 c2
      have e1 := h
      exact callC_out (Sub.bool_eq e1) [kc [] hz0, kt c1, kt (decide_eq_true c2)] (by kernel_rfl)
    · have h := h.2 c2
      have e1 := h
      exact callC_out (Sub.bool_eq e1) [kc [] hz0, kt c1, kf (decide_eq_false c2)] (by kernel_rfl)
  · have h := h.2 c1
    have e1 := h
    exact callC_out (Sub.bool_eq e1) [kc [] hz0, kf c1, kf (Eq.refl false)] (by kernel_rfl)

theorem k7_w (o : OP) (hc : o.cx.length ≤ 1000000000) (h3 : -9223372036854775808 ≤ o.f3 ∧ o.f3 < 9223372036854775808) (h : ((((knowsB o (OP.f1 o) (OP.f2 o) (OP.f3 o)) = true) → (((OP.n o ≥ (1 : Int)) → (decide (OP.n o ≤ IntKind.wrap IntKind.i64 (64 - OP.f3 o))) = (fieldsB o 7)) ∧ ((¬OP.n o ≥ (1 : Int)) → (false) = (fieldsB o 7)))) ∧ (((knowsB o (OP.f1 o) (OP.f2 o) (OP.f3 o)) = false) → (false) = (fieldsB o 7)))) : CallC P G 123 [op o] [] (AOut.ret (Am.bool (fieldsB o 7))) [] := by
  have hz0 := (@Go.Ops.knows_c (o) (OP.f1 o) (OP.f2 o) (OP.f3 o) (by omega))
  rcases Bool.eq_false_or_eq_true ((knowsB o (OP.f1 o) (OP.f2 o) (OP.f3 o))) with c1 | c1
  · have h := h.1 c1
    by_cases c2 : (OP.n o ≥ (1 : Int))
    · have h := h.1 c2
      have e1 := h
      exact callC_out (Sub.bool_eq e1) [kc [] hz0, kt c1, kt (decide_eq_true c2)] (by kernel_rfl)
    · have h := h.2 c2
      have e1 := h
      exact callC_out (Sub.bool_eq e1) [kc [] hz0, kt c1, kf (decide_eq_false c2)] (by kernel_rfl)
  · have h := h.2 c1
    have e1 := h
    exact callC_out (Sub.bool_eq e1) [kc [] hz0, kf c1, kf (Eq.refl false)] (by kernel_rfl)

theorem k8_w (o : OP) (hc : o.cx.length ≤ 1000000000) (h : ((((knowsB o (OP.f1 o) (OP.f2 o) (OP.f3 o)) = true) → ((((knowsB o (OP.t1 o) (OP.t2 o) (OP.t3 o)) = true) → (((OP.n o ≥ (0 : Int)) → (decide (OP.n o ≤ (15 : Int))) = (fieldsB o 8)) ∧ ((¬OP.n o ≥ (0 : Int)) → (false) = (fieldsB o 8)))) ∧ (((knowsB o (OP.t1 o) (OP.t2 o) (OP.t3 o)) = false) → (false) = (fieldsB o 8)))) ∧ (((knowsB o (OP.f1 o) (OP.f2 o) (OP.f3 o)) = false) → (false) = (fieldsB o 8)))) : CallC P G 124 [op o] [] (AOut.ret (Am.bool (fieldsB o 8))) [] := by
  have hz0 := (@Go.Ops.knows_c (o) (OP.f1 o) (OP.f2 o) (OP.f3 o) (by omega))
  rcases Bool.eq_false_or_eq_true ((knowsB o (OP.f1 o) (OP.f2 o) (OP.f3 o))) with c1 | c1
  · have h := h.1 c1
    have hz1 := (@Go.Ops.knows_c (o) (OP.t1 o) (OP.t2 o) (OP.t3 o) (by omega))
    rcases Bool.eq_false_or_eq_true ((knowsB o (OP.t1 o) (OP.t2 o) (OP.t3 o))) with c2 | c2
    · have h := h.1 c2
      by_cases c3 : (OP.n o ≥ (0 : Int))
      · have h := h.1 c3
        have e1 := h
        exact callC_out (Sub.bool_eq e1) [kc [] hz0, kt c1, kc [] hz1, kt c2, kt (decide_eq_true c3)] (by kernel_rfl)
      · have h := h.2 c3
        have e1 := h
        exact callC_out (Sub.bool_eq e1) [kc [] hz0, kt c1, kc [] hz1, kt c2, kf (decide_eq_false c3)] (by kernel_rfl)
    · have h := h.2 c2
      have e1 := h
      exact callC_out (Sub.bool_eq e1) [kc [] hz0, kt c1, kc [] hz1, kf c2, kf (Eq.refl false)] (by kernel_rfl)
  · have h := h.2 c1
    have e1 := h
    exact callC_out (Sub.bool_eq e1) [kc [] hz0, kf c1, kf (Eq.refl false), kf (Eq.refl false)] (by kernel_rfl)

theorem k1_c (o : OP) (hc : o.cx.length ≤ 1000000000) : CallC P G 115 [op o] [] (.ret (bool (fieldsB o 1))) [] := k1_w o hc (by simp only [fieldsB]; exact ⟨fun h => by simp [h], fun h => by simp [h]⟩)
theorem k2_c (o : OP) (hc : o.cx.length ≤ 1000000000) : CallC P G 117 [op o] [] (.ret (bool (fieldsB o 2))) [] := k2_w o hc trivial
theorem k3_c (o : OP) : CallC P G 119 [op o] [] (.ret (bool (fieldsB o 3))) [] := k3_w o (by simp only [fieldsB]; exact ⟨fun h => by simp [h], fun h => by simp [h]⟩)
theorem k4_c (o : OP) : CallC P G 120 [op o] [] (.ret (bool (fieldsB o 4))) [] := k4_w o trivial
theorem k5_c (o : OP) : CallC P G 121 [op o] [] (.ret (bool (fieldsB o 5))) [] := k5_w o (by simp only [fieldsB]; exact ⟨fun h => by simp [h], fun h => by simp [h]⟩)
theorem k6_c (o : OP) (hc : o.cx.length ≤ 1000000000) : CallC P G 122 [op o] [] (.ret (bool (fieldsB o 6))) [] := k6_w o hc (by simp only [fieldsB]; exact ⟨fun h => ⟨fun h2 => by simp [h, h2], fun h2 => by simp [h, h2]⟩, fun h => by simp [h]⟩)
theorem knowsB_at {o : OP} {a b c : Int} (h : knowsB o a b c = true) : 0 ≤ c ∧ c ≤ 63 := by
  unfold knowsB idB at h
  grind
theorem k7_c (o : OP) (hc : o.cx.length ≤ 1000000000) (h3 : -9223372036854775808 ≤ o.f3 ∧ o.f3 < 9223372036854775808) : CallC P G 123 [op o] [] (.ret (bool (fieldsB o 7))) [] := k7_w o hc h3 (by
  simp only [fieldsB]
  refine ⟨fun h => ?_, fun h => by simp [h]⟩
  have := knowsB_at h
  rw [Am.wrap_ok (by omega) (by omega)]
  exact ⟨fun h2 => by simp [h, h2], fun h2 => by simp [h, h2]⟩)
theorem k8_c (o : OP) (hc : o.cx.length ≤ 1000000000) : CallC P G 124 [op o] [] (.ret (bool (fieldsB o 8))) [] := k8_w o hc (by
  simp only [fieldsB]
  exact ⟨fun h => ⟨fun h1 => ⟨fun h2 => by simp [h, h1, h2], fun h2 => by simp [h, h1, h2]⟩, fun h1 => by simp [h, h1]⟩, fun h => by simp [h]⟩)

end Go.Ops

/- OPS, 2: whether operations are the same; what an operation has besides what its kind uses. -/
namespace Go.Ops
set_option maxRecDepth 100000
set_option linter.unusedSimpArgs false
set_option linter.unusedVariables false
open Go Go.Am Go.Proofs Go.Seat Go.Vec Go.Cdc

def eqSt (a b : List D) (k : Nat) : St := { env := slots 26 [(0, vec a), (1, vec b), (4, bool false), (11, vec a), (12, int a.length), (13, int k)], H := [] }

theorem eq_w (a b : List D) (k : Nat) (ha : a.length ≤ 1000000000) (hb : b.length = a.length) (ex : AEx) (r : Bool) (h : ((((↑k : Int) < (↑(List.length a) : Int)) → (∃ x2 : D, (a[k]? = some x2) ∧ (∃ x4 : D, (b[k]? = some x4) ∧ ((((Prod.fst x2 == Prod.fst x4 && Prod.snd x2 == Prod.snd x4) = true) → RunL P G none 0 (loopAt P 42 0) { env := slots 26 [(0, AV.sl 2 false (encs a)), (1, AV.sl 2 false (encs b)), (4, Am.bool false), (11, AV.sl 2 false (encs a)), (12, int (↑(List.length a) : Int)), (13, int (↑(k + 1) : Int))], H := [] } ex { env := slots 26 [(4, Am.bool r)], H := [] }) ∧ (((Prod.fst x2 == Prod.fst x4 && Prod.snd x2 == Prod.snd x4) = false) → (AEx.ret = ex) ∧ ((false) = (r))))))) ∧ ((¬(↑k : Int) < (↑(List.length a) : Int)) → (AEx.exit 0 = ex) ∧ ((false) = (r))))) : RunL P G none 0 (loopAt P 42 0) (eqSt a b k) ex { env := slots 26 [(4, Am.bool r)], H := [] } := by
  by_cases c1 : ((↑k : Int) < (↑(List.length a) : Int))
  · have h := h.1 c1
    obtain ⟨x2, o3, h⟩ := h
    have hz0 : (0 : Int) ≤ (↑k : Int) ∧ (encs a)[Int.toNat (↑k : Int)]? = some (Vec.enc x2) := (el_nat o3)
    obtain ⟨x4, o5, h⟩ := h
    have hz1 : (0 : Int) ≤ (↑k : Int) ∧ (encs b)[Int.toNat (↑k : Int)]? = some (Vec.enc x4) := (el_nat o5)
    rcases Bool.eq_false_or_eq_true ((Prod.fst x2 == Prod.fst x4 && Prod.snd x2 == Prod.snd x4)) with c6 | c6
    · have h := h.1 c6
      exact loop_next [kt (decide_eq_true c1), ko (Orc.elem (Vec.enc x2)), ko (Orc.elem (Vec.enc x4)), kp hz0, kp hz1, kf (show (!(Prod.fst x2 == Prod.fst x4 && Prod.snd x2 == Prod.snd x4)) = false from (congrArg Bool.not (c6))), kv 25 (show Am.Sub (int (IntKind.wrap IntKind.i64 ((↑k : Int) + 1))) (int (↑(k + 1) : Int)) from (Sub.of_wrap (by omega) (by omega) (by omega)))] (others 26 [0, 1, 4, 11, 12, 13]) 0 h (by kernel_rfl)
    · have h := h.2 c6
      obtain ⟨eX, e1⟩ := h
      exact RunL.to ((show RunL P G none 0 (loopAt P 42 0) (eqSt a b k) AEx.ret { env := slots 26 [(4, Am.bool false)], H := [] } from loop_exit [kt (decide_eq_true c1), ko (Orc.elem (Vec.enc x2)), ko (Orc.elem (Vec.enc x4)), kp hz0, kp hz1, kt (show (!(Prod.fst x2 == Prod.fst x4 && Prod.snd x2 == Prod.snd x4)) = true from (congrArg Bool.not (c6)))] (others 26 [4]) 0 (by kernel_rfl))) eX (SubS.slots ⟨rfl, (Sub.bool_eq e1), trivial⟩)
  · have h := h.2 c1
    obtain ⟨eX, e1⟩ := h
    exact RunL.to ((show RunL P G none 0 (loopAt P 42 0) (eqSt a b k) (AEx.exit 0) { env := slots 26 [(4, Am.bool false)], H := [] } from loop_exit [kf (decide_eq_false c1)] (others 26 [4]) 0 (by kernel_rfl))) eX (SubS.slots ⟨rfl, (Sub.bool_eq e1), trivial⟩)

theorem eq_loop (a b : List D) (ha : a.length ≤ 1000000000) (hb : b.length = a.length) : ∀ n k, a.length - k = n → k ≤ a.length →
    RunL P G none 0 (loopAt P 42 0) (eqSt a b k) (if a.drop k = b.drop k then .exit 0 else .ret) { env := slots 26 [(4, bool false)], H := [] } := by
  intro n
  induction n with
  | zero =>
    intro k hn hk
    have e : a.drop k = b.drop k := by rw [List.drop_of_length_le (by omega), List.drop_of_length_le (by omega)]
    exact eq_w a b k ha hb _ _ ⟨fun h => absurd h (by omega), fun _ => ⟨by rw [if_pos e], rfl⟩⟩
  | succ n ih =>
    intro k hn hk
    have hlt : k < a.length := by omega
    have hlt' : k < b.length := by omega
    have e1 := List.drop_eq_getElem_cons hlt
    have e2 := List.drop_eq_getElem_cons hlt'
    refine eq_w a b k ha hb _ _ ⟨fun h => ⟨a[k], List.getElem?_eq_getElem hlt, b[k], List.getElem?_eq_getElem hlt', ⟨fun hq => ?_, fun hq => ?_⟩⟩, fun h => absurd hlt (by omega)⟩
    · have hab : a[k] = b[k] := by simp at hq; exact Prod.ext hq.1 hq.2
      have h2 := ih (k + 1) (by omega) (by omega)
      by_cases hd : a.drop (k + 1) = b.drop (k + 1)
      · rw [if_pos hd] at h2
        rw [if_pos (by rw [e1, e2, hab, hd])]
        exact h2
      · rw [if_neg hd] at h2
        rw [if_neg (by rw [e1, e2, hab]; exact fun h => hd (List.cons.inj h).2)]
        exact h2
    · have hne : ¬ a.drop k = b.drop k := by
        rw [e1, e2]
        intro he
        injection he with h1 _
        rw [h1] at hq
        simp at hq
      rw [if_neg hne]
      exact ⟨rfl, rfl⟩

theorem eq_l (a b : List D) (ha : a.length ≤ 1000000000) (hb : b.length = a.length) : RunL P G none 0 (loopAt P 42 0) (eqSt a b 0) (if a = b then .exit 0 else .ret) { env := slots 26 [(4, bool false)], H := [] } :=
  eq_loop a b ha hb _ 0 rfl (by omega)

theorem eq_f (a b : List D) (ha : a.length ≤ 1000000000) (h : ((((↑(List.length a) : Int) = (↑(List.length b) : Int)) → (((a = b) → (true) = (decide (a = b))) ∧ ((¬a = b) → (false) = (decide (a = b))))) ∧ ((¬(↑(List.length a) : Int) = (↑(List.length b) : Int)) → (false) = (decide (a = b))))) : CallC P G 42 [vec a, vec b] [] (AOut.ret (Am.bool (decide (a = b)))) [] := by
  have hz0 : Am.Sub (int (↑(List.length (encs a)) : Int)) (int (↑(List.length a) : Int)) := (Sub.of_eq (by simp only [Go.Vec.encs_length]))
  have hz1 : Am.Sub (int (↑(List.length (encs b)) : Int)) (int (↑(List.length b) : Int)) := (Sub.of_eq (by simp only [Go.Vec.encs_length]))
  by_cases c1 : ((↑(List.length a) : Int) = (↑(List.length b) : Int))
  · have h := h.1 c1
    have hz2 : ((↑(List.length a) : Int) != (↑(List.length b) : Int)) = false := (congrArg Bool.not (beq_iff_eq.2 c1))
    by_cases c2 : (a = b)
    · have h := h.1 c2
      have e1 := h
      exact callC_out (Sub.bool_eq e1) [kv 7 hz0, kv 9 hz1, kf hz2, kv 12 hz0, kl [2, 3, 5, 6, 7, 8, 9, 10, 14, 15, 16, 17, 18, 19, 20, 21, 22, 23, 24, 25] 0 (show RunL P G none 0 (loopAt P 42 0) { env := slots 26 [(0, AV.sl 2 false (encs a)), (1, AV.sl 2 false (encs b)), (4, Am.bool false), (11, AV.sl 2 false (encs a)), (12, int (↑(List.length a) : Int)), (13, int 0)], H := [] } (AEx.exit 0) { env := slots 26 [(4, Am.bool false)], H := [] } from (by have h0 := (@Go.Ops.eq_l (a) (b) (by omega) (by omega)); simp only [if_pos c2] at h0; exact h0))] (by kernel_rfl)
    · have h := h.2 c2
      have e1 := h
      exact callC_out (Sub.bool_eq e1) [kv 7 hz0, kv 9 hz1, kf hz2, kv 12 hz0, kl [2, 3, 5, 6, 7, 8, 9, 10, 14, 15, 16, 17, 18, 19, 20, 21, 22, 23, 24, 25] 0 (show RunL P G none 0 (loopAt P 42 0) { env := slots 26 [(0, AV.sl 2 false (encs a)), (1, AV.sl 2 false (encs b)), (4, Am.bool false), (11, AV.sl 2 false (encs a)), (12, int (↑(List.length a) : Int)), (13, int 0)], H := [] } AEx.ret { env := slots 26 [(4, Am.bool false)], H := [] } from (by have h0 := (@Go.Ops.eq_l (a) (b) (by omega) (by omega)); simp only [if_neg c2] at h0; exact h0))] (by kernel_rfl)
  · have h := h.2 c1
    have e1 := h
    exact callC_out (Sub.bool_eq e1) [kv 7 hz0, kv 9 hz1, kt (show ((↑(List.length a) : Int) != (↑(List.length b) : Int)) = true from (congrArg Bool.not (beq_eq_false_iff_ne.2 c1)))] (by kernel_rfl)

theorem eq_c (a b : List D) (ha : a.length ≤ 1000000000) : CallC P G 42 [vec a, vec b] [] (.ret (bool (decide (a = b)))) [] := by
  refine eq_f a b ha ?_
  constructor
  · intro h
    exact ⟨fun h => by simp [h], fun h => by simp [h]⟩
  · intro h
    have : a ≠ b := fun e => h (by rw [e])
    simp [this]

/-! Same -/
theorem ba_beq (a b : ByteArray) : (a == b) = decide (a = b) := by
  obtain ⟨⟨a⟩⟩ := a; obtain ⟨⟨b⟩⟩ := b
  show (a.toArray == b.toArray) = _
  rw [Bool.eq_iff_iff]; simp
theorem bool_beq (a b : Bool) : (a == b) = decide (a = b) := by cases a <;> cases b <;> rfl
def sameB (a b : OP) : Bool := (decide (a.dv = b.dv) && decide (a.sq = b.sq)) && decide (a.tm = b.tm) && decide (a.cx = b.cx) && (decide (a.pk = b.pk) && decide (a.pn = b.pn)) && decide (a.kd = b.kd) && (decide (a.f1 = b.f1) && decide (a.f2 = b.f2) && decide (a.f3 = b.f3)) &&
  (decide (a.t1 = b.t1) && decide (a.t2 = b.t2) && decide (a.t3 = b.t3)) && decide (a.ky = b.ky) && decide (a.vl = b.vl) && decide (a.n = b.n) && decide (a.on = b.on)
theorem sameB_eq (a b : OP) : sameB a b = decide (a = b) := by
  cases a; cases b
  simp only [sameB, OP.mk.injEq, Bool.decide_and, Bool.and_assoc]

theorem same_w (a b : OP) (ha : a.cx.length ≤ 1000000000) (v : Bool) (h : ((((OP.dv a == OP.dv b && OP.sq a == OP.sq b) = true) → (((OP.tm a = OP.tm b) → (((OP.cx a = OP.cx b) → ((((OP.pk a == OP.pk b && OP.pn a == OP.pn b) = true) → (((OP.kd a = OP.kd b) → ((((OP.f1 a == OP.f1 b && (OP.f2 a == OP.f2 b && OP.f3 a == OP.f3 b)) = true) → ((((OP.t1 a == OP.t1 b && (OP.t2 a == OP.t2 b && OP.t3 a == OP.t3 b)) = true) → (((OP.ky a = OP.ky b) → (((OP.vl a = OP.vl b) → (((OP.n a = OP.n b) → (OP.on a == OP.on b) = (v)) ∧ ((¬OP.n a = OP.n b) → (false) = (v)))) ∧ ((¬OP.vl a = OP.vl b) → (false) = (v)))) ∧ ((¬OP.ky a = OP.ky b) → (false) = (v)))) ∧ (((OP.t1 a == OP.t1 b && (OP.t2 a == OP.t2 b && OP.t3 a == OP.t3 b)) = false) → (false) = (v)))) ∧ (((OP.f1 a == OP.f1 b && (OP.f2 a == OP.f2 b && OP.f3 a == OP.f3 b)) = false) → (false) = (v)))) ∧ ((¬OP.kd a = OP.kd b) → (false) = (v)))) ∧ (((OP.pk a == OP.pk b && OP.pn a == OP.pn b) = false) → (false) = (v)))) ∧ ((¬OP.cx a = OP.cx b) → (false) = (v)))) ∧ ((¬OP.tm a = OP.tm b) → (false) = (v)))) ∧ (((OP.dv a == OP.dv b && OP.sq a == OP.sq b) = false) → (false) = (v)))) : CallC P G 16 [op a, op b] [] (AOut.ret (Am.bool v)) [] := by
  rcases Bool.eq_false_or_eq_true ((OP.dv a == OP.dv b && OP.sq a == OP.sq b)) with c1 | c1
  · have h := h.1 c1
    by_cases c2 : (OP.tm a = OP.tm b)
    · have h := h.1 c2
      have hz0 := (@Go.Ops.eq_c (OP.cx a) (OP.cx b) (by omega))
      by_cases c3 : (OP.cx a = OP.cx b)
      · have h := h.1 c3
        rcases Bool.eq_false_or_eq_true ((OP.pk a == OP.pk b && OP.pn a == OP.pn b)) with c4 | c4
        · have h := h.1 c4
          by_cases c5 : (OP.kd a = OP.kd b)
          · have h := h.1 c5
            rcases Bool.eq_false_or_eq_true ((OP.f1 a == OP.f1 b && (OP.f2 a == OP.f2 b && OP.f3 a == OP.f3 b))) with c6 | c6
            · have h := h.1 c6
              rcases Bool.eq_false_or_eq_true ((OP.t1 a == OP.t1 b && (OP.t2 a == OP.t2 b && OP.t3 a == OP.t3 b))) with c7 | c7
              · have h := h.1 c7
                have hz1 : Am.Sub (Am.bool (ByteArray.toList (OP.ky a) == ByteArray.toList (OP.ky b))) (Am.bool (decide (OP.ky a = OP.ky b))) := (Sub.of_eq (by simp only [Go.Cdc.str_eq]))
                by_cases c8 : (OP.ky a = OP.ky b)
                · have h := h.1 c8
                  have hz2 : Am.Sub (Am.bool (ByteArray.toList (OP.vl a) == ByteArray.toList (OP.vl b))) (Am.bool (decide (OP.vl a = OP.vl b))) := (Sub.of_eq (by simp only [Go.Cdc.str_eq]))
                  by_cases c9 : (OP.vl a = OP.vl b)
                  · have h := h.1 c9
                    by_cases c10 : (OP.n a = OP.n b)
                    · have h := h.1 c10
                      have e1 := h
                      exact callC_out (Sub.bool_eq e1) [kt c1, kt (beq_iff_eq.2 c2), kc [] hz0, kt (decide_eq_true c3), kt c4, kt (beq_iff_eq.2 c5), kt c6, kt c7, kv 57 hz1, kt (decide_eq_true c8), kv 64 hz2, kt (decide_eq_true c9), kt (beq_iff_eq.2 c10)] (by kernel_rfl)
                    · have h := h.2 c10
                      have e1 := h
                      exact callC_out (Sub.bool_eq e1) [kt c1, kt (beq_iff_eq.2 c2), kc [] hz0, kt (decide_eq_true c3), kt c4, kt (beq_iff_eq.2 c5), kt c6, kt c7, kv 57 hz1, kt (decide_eq_true c8), kv 64 hz2, kt (decide_eq_true c9), kf (beq_eq_false_iff_ne.2 c10)] (by kernel_rfl)
                  · have h := h.2 c9
                    have e1 := h
                    exact callC_out (Sub.bool_eq e1) [kt c1, kt (beq_iff_eq.2 c2), kc [] hz0, kt (decide_eq_true c3), kt c4, kt (beq_iff_eq.2 c5), kt c6, kt c7, kv 57 hz1, kt (decide_eq_true c8), kv 64 hz2, kf (decide_eq_false c9), kf (Eq.refl false)] (by kernel_rfl)
                · have h := h.2 c8
                  have e1 := h
                  exact callC_out (Sub.bool_eq e1) [kt c1, kt (beq_iff_eq.2 c2), kc [] hz0, kt (decide_eq_true c3), kt c4, kt (beq_iff_eq.2 c5), kt c6, kt c7, kv 57 hz1, kf (decide_eq_false c8), kf (Eq.refl false), kf (Eq.refl false)] (by kernel_rfl)
              · have h := h.2 c7
                have e1 := h
                exact callC_out (Sub.bool_eq e1) [kt c1, kt (beq_iff_eq.2 c2), kc [] hz0, kt (decide_eq_true c3), kt c4, kt (beq_iff_eq.2 c5), kt c6, kf c7, kf (Eq.refl false), kf (Eq.refl false), kf (Eq.refl false)] (by kernel_rfl)
            · have h := h.2 c6
              have e1 := h
              exact callC_out (Sub.bool_eq e1) [kt c1, kt (beq_iff_eq.2 c2), kc [] hz0, kt (decide_eq_true c3), kt c4, kt (beq_iff_eq.2 c5), kf c6, kf (Eq.refl false), kf (Eq.refl false), kf (Eq.refl false), kf (Eq.refl false)] (by kernel_rfl)
          · have h := h.2 c5
            have e1 := h
            exact callC_out (Sub.bool_eq e1) [kt c1, kt (beq_iff_eq.2 c2), kc [] hz0, kt (decide_eq_true c3), kt c4, kf (beq_eq_false_iff_ne.2 c5), kf (Eq.refl false), kf (Eq.refl false), kf (Eq.refl false), kf (Eq.refl false), kf (Eq.refl false)] (by kernel_rfl)
        · have h := h.2 c4
          have e1 := h
          exact callC_out (Sub.bool_eq e1) [kt c1, kt (beq_iff_eq.2 c2), kc [] hz0, kt (decide_eq_true c3), kf c4, kf (Eq.refl false), kf (Eq.refl false), kf (Eq.refl false), kf (Eq.refl false), kf (Eq.refl false), kf (Eq.refl false)] (by kernel_rfl)
      · have h := h.2 c3
        have e1 := h
        exact callC_out (Sub.bool_eq e1) [kt c1, kt (beq_iff_eq.2 c2), kc [] hz0, kf (decide_eq_false c3), kf (Eq.refl false), kf (Eq.refl false), kf (Eq.refl false), kf (Eq.refl false), kf (Eq.refl false), kf (Eq.refl false), kf (Eq.refl false)] (by kernel_rfl)
    · have h := h.2 c2
      have e1 := h
      exact callC_out (Sub.bool_eq e1) [kt c1, kf (beq_eq_false_iff_ne.2 c2), kf (Eq.refl false), kf (Eq.refl false), kf (Eq.refl false), kf (Eq.refl false), kf (Eq.refl false), kf (Eq.refl false), kf (Eq.refl false), kf (Eq.refl false)] (by kernel_rfl)
  · have h := h.2 c1
    have e1 := h
    exact callC_out (Sub.bool_eq e1) [kf c1, kf (Eq.refl false), kf (Eq.refl false), kf (Eq.refl false), kf (Eq.refl false), kf (Eq.refl false), kf (Eq.refl false), kf (Eq.refl false), kf (Eq.refl false), kf (Eq.refl false)] (by kernel_rfl)

theorem same_c (a b : OP) (ha : a.cx.length ≤ 1000000000) : CallC P G 16 [op a, op b] [] (.ret (bool (decide (a = b)))) [] := same_w a b ha _ (by
  rw [← sameB_eq]; unfold sameB
  repeat' (first | refine And.intro ?_ ?_ | intro _)
  all_goals simp_all [ba_beq, bool_beq])
/-! What is left besides a kind's fields -/
def zop : OP := ⟨0, 0, 0, [], 0, .empty, 0, 0, 0, 0, 0, 0, 0, .empty, .empty, 0, false⟩
def restO (o : OP) : Int → OP
  | 1 => { zop with t1 := o.t1, t2 := o.t2, t3 := o.t3, ky := o.ky, n := o.n, on := o.on }
  | 2 => { zop with t1 := o.t1, t2 := o.t2, t3 := o.t3, ky := o.ky, vl := o.vl, n := o.n, on := o.on }
  | 3 => { zop with f1 := o.f1, f2 := o.f2, f3 := o.f3, t1 := o.t1, t2 := o.t2, t3 := o.t3, n := o.n, on := o.on }
  | 4 => { zop with f1 := o.f1, f2 := o.f2, f3 := o.f3, t1 := o.t1, t2 := o.t2, t3 := o.t3, vl := o.vl, n := o.n, on := o.on }
  | 5 => { zop with f1 := o.f1, f2 := o.f2, f3 := o.f3, t1 := o.t1, t2 := o.t2, t3 := o.t3, ky := o.ky, vl := o.vl, on := o.on }
  | 6 => { zop with t1 := o.t1, t2 := o.t2, t3 := o.t3, ky := o.ky, n := o.n, on := o.on }
  | 7 => { zop with t1 := o.t1, t2 := o.t2, t3 := o.t3, ky := o.ky, vl := o.vl, on := o.on }
  | _ => { zop with ky := o.ky, vl := o.vl }

theorem rest1_w (o : OP) (h : True) : CallC P G 32 [opk o 1] [] (AOut.ret (op (restO o 1))) [] := by
  have _ := h
  exact CallC.out ((show CallC P G 32 [opk o 1] [] (AOut.ret (AV.agg [int 0, int 0, int 0, nilS, int 0, str { data := #[] }, int 0, int 0, int 0, int 0, int (OP.t1 o), int (OP.t2 o), int (OP.t3 o), str (OP.ky o), str { data := #[] }, int (OP.n o), Am.bool (OP.on o)])) [] from callC_of [kf (Eq.refl false), kf (Eq.refl false), kf (Eq.refl false), kt (Eq.refl true), kt (Eq.refl true)] (by kernel_rfl))) (Sub.aggs ⟨Sub.refl _, Sub.refl _, Sub.refl _, Sub.nil _, Sub.refl _, Sub.refl _, Sub.refl _, Sub.refl _, Sub.refl _, Sub.refl _, Sub.refl _, Sub.refl _, Sub.refl _, Sub.refl _, Sub.refl _, Sub.refl _, Sub.refl _, trivial⟩)

theorem rest2_w (o : OP) (h : True) : CallC P G 32 [opk o 2] [] (AOut.ret (op (restO o 2))) [] := by
  have _ := h
  exact CallC.out ((show CallC P G 32 [opk o 2] [] (AOut.ret (AV.agg [int 0, int 0, int 0, nilS, int 0, str { data := #[] }, int 0, int 0, int 0, int 0, int (OP.t1 o), int (OP.t2 o), int (OP.t3 o), str (OP.ky o), str (OP.vl o), int (OP.n o), Am.bool (OP.on o)])) [] from callC_of [kf (Eq.refl false), kf (Eq.refl false), kf (Eq.refl false), kf (Eq.refl false), kf (Eq.refl false), kt (Eq.refl true)] (by kernel_rfl))) (Sub.aggs ⟨Sub.refl _, Sub.refl _, Sub.refl _, Sub.nil _, Sub.refl _, Sub.refl _, Sub.refl _, Sub.refl _, Sub.refl _, Sub.refl _, Sub.refl _, Sub.refl _, Sub.refl _, Sub.refl _, Sub.refl _, Sub.refl _, Sub.refl _, trivial⟩)

theorem rest3_w (o : OP) (h : True) : CallC P G 32 [opk o 3] [] (AOut.ret (op (restO o 3))) [] := by
  have _ := h
  exact CallC.out ((show CallC P G 32 [opk o 3] [] (AOut.ret (AV.agg [int 0, int 0, int 0, nilS, int 0, str { data := #[] }, int 0, int (OP.f1 o), int (OP.f2 o), int (OP.f3 o), int (OP.t1 o), int (OP.t2 o), int (OP.t3 o), str { data := #[] }, str { data := #[] }, int (OP.n o), Am.bool (OP.on o)])) [] from callC_of [kf (Eq.refl false), kf (Eq.refl false), kf (Eq.refl false), kf (Eq.refl false), kf (Eq.refl false), kf (Eq.refl false), kt (Eq.refl true)] (by kernel_rfl))) (Sub.aggs ⟨Sub.refl _, Sub.refl _, Sub.refl _, Sub.nil _, Sub.refl _, Sub.refl _, Sub.refl _, Sub.refl _, Sub.refl _, Sub.refl _, Sub.refl _, Sub.refl _, Sub.refl _, Sub.refl _, Sub.refl _, Sub.refl _, Sub.refl _, trivial⟩)

theorem rest4_w (o : OP) (h : True) : CallC P G 32 [opk o 4] [] (AOut.ret (op (restO o 4))) [] := by
  have _ := h
  exact CallC.out ((show CallC P G 32 [opk o 4] [] (AOut.ret (AV.agg [int 0, int 0, int 0, nilS, int 0, str { data := #[] }, int 0, int (OP.f1 o), int (OP.f2 o), int (OP.f3 o), int (OP.t1 o), int (OP.t2 o), int (OP.t3 o), str { data := #[] }, str (OP.vl o), int (OP.n o), Am.bool (OP.on o)])) [] from callC_of [kf (Eq.refl false), kf (Eq.refl false), kf (Eq.refl false), kf (Eq.refl false), kf (Eq.refl false), kf (Eq.refl false), kf (Eq.refl false), kt (Eq.refl true)] (by kernel_rfl))) (Sub.aggs ⟨Sub.refl _, Sub.refl _, Sub.refl _, Sub.nil _, Sub.refl _, Sub.refl _, Sub.refl _, Sub.refl _, Sub.refl _, Sub.refl _, Sub.refl _, Sub.refl _, Sub.refl _, Sub.refl _, Sub.refl _, Sub.refl _, Sub.refl _, trivial⟩)

theorem rest5_w (o : OP) (h : True) : CallC P G 32 [opk o 5] [] (AOut.ret (op (restO o 5))) [] := by
  have _ := h
  exact CallC.out ((show CallC P G 32 [opk o 5] [] (AOut.ret (AV.agg [int 0, int 0, int 0, nilS, int 0, str { data := #[] }, int 0, int (OP.f1 o), int (OP.f2 o), int (OP.f3 o), int (OP.t1 o), int (OP.t2 o), int (OP.t3 o), str (OP.ky o), str (OP.vl o), int 0, Am.bool (OP.on o)])) [] from callC_of [kf (Eq.refl false), kf (Eq.refl false), kt (Eq.refl true)] (by kernel_rfl))) (Sub.aggs ⟨Sub.refl _, Sub.refl _, Sub.refl _, Sub.nil _, Sub.refl _, Sub.refl _, Sub.refl _, Sub.refl _, Sub.refl _, Sub.refl _, Sub.refl _, Sub.refl _, Sub.refl _, Sub.refl _, Sub.refl _, Sub.refl _, Sub.refl _, trivial⟩)

theorem rest6_w (o : OP) (h : True) : CallC P G 32 [opk o 6] [] (AOut.ret (op (restO o 6))) [] := by
  have _ := h
  exact CallC.out ((show CallC P G 32 [opk o 6] [] (AOut.ret (AV.agg [int 0, int 0, int 0, nilS, int 0, str { data := #[] }, int 0, int 0, int 0, int 0, int (OP.t1 o), int (OP.t2 o), int (OP.t3 o), str (OP.ky o), str { data := #[] }, int (OP.n o), Am.bool (OP.on o)])) [] from callC_of [kf (Eq.refl false), kf (Eq.refl false), kf (Eq.refl false), kf (Eq.refl false), kt (Eq.refl true)] (by kernel_rfl))) (Sub.aggs ⟨Sub.refl _, Sub.refl _, Sub.refl _, Sub.nil _, Sub.refl _, Sub.refl _, Sub.refl _, Sub.refl _, Sub.refl _, Sub.refl _, Sub.refl _, Sub.refl _, Sub.refl _, Sub.refl _, Sub.refl _, Sub.refl _, Sub.refl _, trivial⟩)

theorem rest7_w (o : OP) (h : True) : CallC P G 32 [opk o 7] [] (AOut.ret (op (restO o 7))) [] := by
  have _ := h
  exact CallC.out ((show CallC P G 32 [opk o 7] [] (AOut.ret (AV.agg [int 0, int 0, int 0, nilS, int 0, str { data := #[] }, int 0, int 0, int 0, int 0, int (OP.t1 o), int (OP.t2 o), int (OP.t3 o), str (OP.ky o), str (OP.vl o), int 0, Am.bool (OP.on o)])) [] from callC_of [kf (Eq.refl false), kt (Eq.refl true)] (by kernel_rfl))) (Sub.aggs ⟨Sub.refl _, Sub.refl _, Sub.refl _, Sub.nil _, Sub.refl _, Sub.refl _, Sub.refl _, Sub.refl _, Sub.refl _, Sub.refl _, Sub.refl _, Sub.refl _, Sub.refl _, Sub.refl _, Sub.refl _, Sub.refl _, Sub.refl _, trivial⟩)

theorem rest8_w (o : OP) (h : True) : CallC P G 32 [opk o 8] [] (AOut.ret (op (restO o 8))) [] := by
  have _ := h
  exact CallC.out ((show CallC P G 32 [opk o 8] [] (AOut.ret (AV.agg [int 0, int 0, int 0, nilS, int 0, str { data := #[] }, int 0, int 0, int 0, int 0, int 0, int 0, int 0, str (OP.ky o), str (OP.vl o), int 0, Am.bool false])) [] from callC_of [kt (Eq.refl true)] (by kernel_rfl))) (Sub.aggs ⟨Sub.refl _, Sub.refl _, Sub.refl _, Sub.nil _, Sub.refl _, Sub.refl _, Sub.refl _, Sub.refl _, Sub.refl _, Sub.refl _, Sub.refl _, Sub.refl _, Sub.refl _, Sub.refl _, Sub.refl _, Sub.refl _, Sub.refl _, trivial⟩)

end Go.Ops

/- CODEC, 4: what is well-formed, and how deep. -/
namespace Go.Cdc
set_option maxRecDepth 100000
set_option linter.unusedSimpArgs false
set_option linter.unusedVariables false
open Go Go.Am Go.Proofs Go.Seat

mutual
def wf : CV → Bool
  | .mk k n s l => if k = 1 then decide (s = .empty) && decide (l.length = 0) else if k = 2 then decide (n = 0) && decide (l.length = 0) else if k = 3 then decide (n = 0) && decide (s = .empty) && wfL l else false
def wfL : List CV → Bool
  | [] => true
  | v :: l => wf v && wfL l
end
mutual
def dp : CV → Nat
  | .mk k _ _ l => if k = 3 then dpL l + 1 else 0
def dpL : List CV → Nat
  | [] => 0
  | v :: l => max (dp v) (dpL l)
end
theorem CV.ind {p : CV → Prop} (h : ∀ k n s l, (∀ x ∈ l, p x) → p (.mk k n s l)) (v : CV) : p v :=
  CV.rec (motive_1 := p) (motive_2 := fun l => ∀ x ∈ l, p x) (fun k n s l ih => h k n s l ih) (fun _ hx => by cases hx) (fun a l ha hl x hx => by
    rcases List.mem_cons.1 hx with rfl | hx
    · exact ha
    · exact hl x hx) v
/-- Data within what a machine holds. -/
inductive Okv : CV → Prop
  | mk (k n : Int) (s : ByteArray) (l : List CV) (hn : -9223372036854775808 ≤ n ∧ n < 9223372036854775808) (hs : s.size ≤ 9223372036854775807) (hl : l.length ≤ 9223372036854775807) (h : ∀ x ∈ l, Okv x) : Okv (.mk k n s l)
theorem dp_mem {l : List CV} {x : CV} (h : x ∈ l) : dp x ≤ dpL l := by
  induction l with
  | nil => cases h
  | cons a l ih =>
    simp only [dpL]
    rcases List.mem_cons.1 h with rfl | h
    · omega
    · have := ih h; omega
theorem empty_eq : ({ data := #[] } : ByteArray) = ByteArray.empty := rfl
/-- What an element says of itself. -/
def FormedC (v : CV) : Prop := CallC P G 85 [val v] [] (.ret (.tup [int (if wf v = true then dp v else 0), bool (wf v)])) []

theorem formed1_w (n : Int) (s : ByteArray) (l : List CV) (a : Int) (b : Bool) (h : (((s = { data := #[] }) → (((n = (0 : Int)) → ((((↑(List.length l) : Int) = (0 : Int)) → ((0 : Int) = (a)) ∧ ((true) = (b))) ∧ ((¬(↑(List.length l) : Int) = (0 : Int)) → ((0 : Int) = (a)) ∧ ((false) = (b))))) ∧ ((¬n = (0 : Int)) → ((((↑(List.length l) : Int) = (0 : Int)) → ((0 : Int) = (a)) ∧ ((true) = (b))) ∧ ((¬(↑(List.length l) : Int) = (0 : Int)) → ((0 : Int) = (a)) ∧ ((false) = (b))))))) ∧ ((¬s = { data := #[] }) → (((n = (0 : Int)) → ((0 : Int) = (a)) ∧ ((false) = (b))) ∧ ((¬n = (0 : Int)) → ((0 : Int) = (a)) ∧ ((false) = (b))))))) : CallC P G 85 [vmk 1 n s l] [] (AOut.ret (AV.tup [int a, Am.bool b])) [] := by
  have hz0 : Am.Sub (Am.bool (ByteArray.toList s == ByteArray.toList { data := #[] })) (Am.bool (decide (s = { data := #[] }))) := (Sub.of_eq (by simp only [Go.Cdc.str_eq]))
  by_cases c1 : (s = { data := #[] })
  · have h := h.1 c1
    have hz1 : Am.Sub (int (↑(List.length (encL l)) : Int)) (int (↑(List.length l) : Int)) := (Sub.of_eq (by simp only [Go.Cdc.encL_length]))
    by_cases c2 : (n = (0 : Int))
    · have h := h.1 c2
      have hz2 : (0 : Int) ≤ (1 : Int) ∧ (1 : Int) < (4 : Int) := (by omega)
      by_cases c3 : ((↑(List.length l) : Int) = (0 : Int))
      · have h := h.1 c3
        obtain ⟨e1, e2⟩ := h
        exact CallC.out ((show CallC P G 85 [vmk 1 n s l] [] (AOut.ret (AV.tup [int 0, Am.bool true])) [] from callC_of [kv 11 hz0, kt (decide_eq_true c1), kv 15 hz1, kt (beq_iff_eq.2 c2), kv 24 hz1, kt (beq_iff_eq.2 c2), kv 33 hz0, kf (Eq.refl false), kf (Eq.refl false), kp hz2, kf (show (!(↑(List.length l) : Int) == 0) = false from (congrArg Bool.not (beq_iff_eq.2 c3))), kt (Eq.refl true)] (by kernel_rfl))) (Sub.tups ⟨(Sub.int_eq e1), (Sub.bool_eq e2), trivial⟩)
      · have h := h.2 c3
        obtain ⟨e1, e2⟩ := h
        exact CallC.out ((show CallC P G 85 [vmk 1 n s l] [] (AOut.ret (AV.tup [int 0, Am.bool false])) [] from callC_of [kv 11 hz0, kt (decide_eq_true c1), kv 15 hz1, kt (beq_iff_eq.2 c2), kv 24 hz1, kt (beq_iff_eq.2 c2), kv 33 hz0, kf (Eq.refl false), kf (Eq.refl false), kp hz2, kt (show (!(↑(List.length l) : Int) == 0) = true from (congrArg Bool.not (beq_eq_false_iff_ne.2 c3)))] (by kernel_rfl))) (Sub.tups ⟨(Sub.int_eq e1), (Sub.bool_eq e2), trivial⟩)
    · have h := h.2 c2
      have hz2 : (0 : Int) ≤ (1 : Int) ∧ (1 : Int) < (4 : Int) := (by omega)
      by_cases c4 : ((↑(List.length l) : Int) = (0 : Int))
      · have h := h.1 c4
        obtain ⟨e1, e2⟩ := h
        exact CallC.out ((show CallC P G 85 [vmk 1 n s l] [] (AOut.ret (AV.tup [int 0, Am.bool true])) [] from callC_of [kv 11 hz0, kt (decide_eq_true c1), kv 15 hz1, kf (beq_eq_false_iff_ne.2 c2), kf (beq_eq_false_iff_ne.2 c2), kf (Eq.refl false), kf (Eq.refl false), kp hz2, kf (show (!(↑(List.length l) : Int) == 0) = false from (congrArg Bool.not (beq_iff_eq.2 c4))), kt (Eq.refl true)] (by kernel_rfl))) (Sub.tups ⟨(Sub.int_eq e1), (Sub.bool_eq e2), trivial⟩)
      · have h := h.2 c4
        obtain ⟨e1, e2⟩ := h
        exact CallC.out ((show CallC P G 85 [vmk 1 n s l] [] (AOut.ret (AV.tup [int 0, Am.bool false])) [] from callC_of [kv 11 hz0, kt (decide_eq_true c1), kv 15 hz1, kf (beq_eq_false_iff_ne.2 c2), kf (beq_eq_false_iff_ne.2 c2), kf (Eq.refl false), kf (Eq.refl false), kp hz2, kt (show (!(↑(List.length l) : Int) == 0) = true from (congrArg Bool.not (beq_eq_false_iff_ne.2 c4)))] (by kernel_rfl))) (Sub.tups ⟨(Sub.int_eq e1), (Sub.bool_eq e2), trivial⟩)
  · have h := h.2 c1
    by_cases c5 : (n = (0 : Int))
    · have h := h.1 c5
      obtain ⟨e1, e2⟩ := h
      exact CallC.out ((show CallC P G 85 [vmk 1 n s l] [] (AOut.ret (AV.tup [int 0, Am.bool false])) [] from callC_of [kv 11 hz0, kf (decide_eq_false c1), kt (beq_iff_eq.2 c5), kv 24 (show Am.Sub (int (↑(List.length (encL l)) : Int)) (int (↑(List.length l) : Int)) from (Sub.of_eq (by simp only [Go.Cdc.encL_length]))), kt (beq_iff_eq.2 c5), kv 33 hz0, kf (Eq.refl false), kf (Eq.refl false), kp (show (0 : Int) ≤ (1 : Int) ∧ (1 : Int) < (4 : Int) from (by omega)), kt (Eq.refl true)] (by kernel_rfl))) (Sub.tups ⟨(Sub.int_eq e1), (Sub.bool_eq e2), trivial⟩)
    · have h := h.2 c5
      obtain ⟨e1, e2⟩ := h
      exact CallC.out ((show CallC P G 85 [vmk 1 n s l] [] (AOut.ret (AV.tup [int 0, Am.bool false])) [] from callC_of [kv 11 hz0, kf (decide_eq_false c1), kf (beq_eq_false_iff_ne.2 c5), kf (beq_eq_false_iff_ne.2 c5), kf (Eq.refl false), kf (Eq.refl false), kp (show (0 : Int) ≤ (1 : Int) ∧ (1 : Int) < (4 : Int) from (by omega)), kt (Eq.refl true)] (by kernel_rfl))) (Sub.tups ⟨(Sub.int_eq e1), (Sub.bool_eq e2), trivial⟩)

theorem formed2_w (n : Int) (s : ByteArray) (l : List CV) (a : Int) (b : Bool) (h : (((s = { data := #[] }) → (((n = (0 : Int)) → ((((↑(List.length l) : Int) = (0 : Int)) → ((0 : Int) = (a)) ∧ ((true) = (b))) ∧ ((¬(↑(List.length l) : Int) = (0 : Int)) → ((0 : Int) = (a)) ∧ ((false) = (b))))) ∧ ((¬n = (0 : Int)) → ((0 : Int) = (a)) ∧ ((false) = (b))))) ∧ ((¬s = { data := #[] }) → (((n = (0 : Int)) → ((((↑(List.length l) : Int) = (0 : Int)) → ((0 : Int) = (a)) ∧ ((true) = (b))) ∧ ((¬(↑(List.length l) : Int) = (0 : Int)) → ((0 : Int) = (a)) ∧ ((false) = (b))))) ∧ ((¬n = (0 : Int)) → ((0 : Int) = (a)) ∧ ((false) = (b))))))) : CallC P G 85 [vmk 2 n s l] [] (AOut.ret (AV.tup [int a, Am.bool b])) [] := by
  have hz0 : Am.Sub (Am.bool (ByteArray.toList s == ByteArray.toList { data := #[] })) (Am.bool (decide (s = { data := #[] }))) := (Sub.of_eq (by simp only [Go.Cdc.str_eq]))
  by_cases c1 : (s = { data := #[] })
  · have h := h.1 c1
    have hz1 : Am.Sub (int (↑(List.length (encL l)) : Int)) (int (↑(List.length l) : Int)) := (Sub.of_eq (by simp only [Go.Cdc.encL_length]))
    by_cases c2 : (n = (0 : Int))
    · have h := h.1 c2
      have hz2 : (0 : Int) ≤ (2 : Int) ∧ (2 : Int) < (4 : Int) := (by omega)
      by_cases c3 : ((↑(List.length l) : Int) = (0 : Int))
      · have h := h.1 c3
        obtain ⟨e1, e2⟩ := h
        exact CallC.out ((show CallC P G 85 [vmk 2 n s l] [] (AOut.ret (AV.tup [int 0, Am.bool true])) [] from callC_of [kv 11 hz0, kt (decide_eq_true c1), kv 15 hz1, kt (beq_iff_eq.2 c2), kv 24 hz1, kt (beq_iff_eq.2 c2), kv 33 hz0, kf (Eq.refl false), kf (Eq.refl false), kp hz2, kf (show (!(↑(List.length l) : Int) == 0) = false from (congrArg Bool.not (beq_iff_eq.2 c3))), kt (Eq.refl true)] (by kernel_rfl))) (Sub.tups ⟨(Sub.int_eq e1), (Sub.bool_eq e2), trivial⟩)
      · have h := h.2 c3
        obtain ⟨e1, e2⟩ := h
        exact CallC.out ((show CallC P G 85 [vmk 2 n s l] [] (AOut.ret (AV.tup [int 0, Am.bool false])) [] from callC_of [kv 11 hz0, kt (decide_eq_true c1), kv 15 hz1, kt (beq_iff_eq.2 c2), kv 24 hz1, kt (beq_iff_eq.2 c2), kv 33 hz0, kf (Eq.refl false), kf (Eq.refl false), kp hz2, kt (show (!(↑(List.length l) : Int) == 0) = true from (congrArg Bool.not (beq_eq_false_iff_ne.2 c3)))] (by kernel_rfl))) (Sub.tups ⟨(Sub.int_eq e1), (Sub.bool_eq e2), trivial⟩)
    · have h := h.2 c2
      obtain ⟨e1, e2⟩ := h
      exact CallC.out ((show CallC P G 85 [vmk 2 n s l] [] (AOut.ret (AV.tup [int 0, Am.bool false])) [] from callC_of [kv 11 hz0, kt (decide_eq_true c1), kv 15 hz1, kf (beq_eq_false_iff_ne.2 c2), kf (beq_eq_false_iff_ne.2 c2), kf (Eq.refl false), kf (Eq.refl false), kp (show (0 : Int) ≤ (2 : Int) ∧ (2 : Int) < (4 : Int) from (by omega)), kt (Eq.refl true)] (by kernel_rfl))) (Sub.tups ⟨(Sub.int_eq e1), (Sub.bool_eq e2), trivial⟩)
  · have h := h.2 c1
    have hz1 : Am.Sub (int (↑(List.length (encL l)) : Int)) (int (↑(List.length l) : Int)) := (Sub.of_eq (by simp only [Go.Cdc.encL_length]))
    by_cases c4 : (n = (0 : Int))
    · have h := h.1 c4
      by_cases c5 : ((↑(List.length l) : Int) = (0 : Int))
      · have h := h.1 c5
        obtain ⟨e1, e2⟩ := h
        exact CallC.out ((show CallC P G 85 [vmk 2 n s l] [] (AOut.ret (AV.tup [int 0, Am.bool true])) [] from callC_of [kv 11 hz0, kf (decide_eq_false c1), kt (beq_iff_eq.2 c4), kv 24 hz1, kt (beq_iff_eq.2 c4), kv 33 hz0, kf (Eq.refl false), kf (Eq.refl false), kp (show (0 : Int) ≤ (2 : Int) ∧ (2 : Int) < (4 : Int) from (by omega)), kf (show (!(↑(List.length l) : Int) == 0) = false from (congrArg Bool.not (beq_iff_eq.2 c5))), kt (Eq.refl true)] (by kernel_rfl))) (Sub.tups ⟨(Sub.int_eq e1), (Sub.bool_eq e2), trivial⟩)
      · have h := h.2 c5
        obtain ⟨e1, e2⟩ := h
        exact CallC.out ((show CallC P G 85 [vmk 2 n s l] [] (AOut.ret (AV.tup [int 0, Am.bool false])) [] from callC_of [kv 11 hz0, kf (decide_eq_false c1), kt (beq_iff_eq.2 c4), kv 24 hz1, kt (beq_iff_eq.2 c4), kv 33 hz0, kf (Eq.refl false), kf (Eq.refl false), kp (show (0 : Int) ≤ (2 : Int) ∧ (2 : Int) < (4 : Int) from (by omega)), kt (show (!(↑(List.length l) : Int) == 0) = true from (congrArg Bool.not (beq_eq_false_iff_ne.2 c5)))] (by kernel_rfl))) (Sub.tups ⟨(Sub.int_eq e1), (Sub.bool_eq e2), trivial⟩)
    · have h := h.2 c4
      obtain ⟨e1, e2⟩ := h
      exact CallC.out ((show CallC P G 85 [vmk 2 n s l] [] (AOut.ret (AV.tup [int 0, Am.bool false])) [] from callC_of [kv 11 hz0, kf (decide_eq_false c1), kf (beq_eq_false_iff_ne.2 c4), kf (beq_eq_false_iff_ne.2 c4), kf (Eq.refl false), kf (Eq.refl false), kp (show (0 : Int) ≤ (2 : Int) ∧ (2 : Int) < (4 : Int) from (by omega)), kt (Eq.refl true)] (by kernel_rfl))) (Sub.tups ⟨(Sub.int_eq e1), (Sub.bool_eq e2), trivial⟩)

theorem formedx_w (k n : Int) (s : ByteArray) (l : List CV) (hk : k < 1 ∨ 3 < k) (h : (((s = { data := #[] }) → (((n = (0 : Int)) → (((k < (1 : Int)) → True) ∧ ((¬k < (1 : Int)) → True))) ∧ ((¬n = (0 : Int)) → (((k < (1 : Int)) → True) ∧ ((¬k < (1 : Int)) → True))))) ∧ ((¬s = { data := #[] }) → (((n = (0 : Int)) → (((k < (1 : Int)) → True) ∧ ((¬k < (1 : Int)) → True))) ∧ ((¬n = (0 : Int)) → (((k < (1 : Int)) → True) ∧ ((¬k < (1 : Int)) → True))))))) : CallC P G 85 [vmk k n s l] [] (AOut.ret (AV.tup [int 0, Am.bool false])) [] := by
  have hz0 : Am.Sub (Am.bool (ByteArray.toList s == ByteArray.toList { data := #[] })) (Am.bool (decide (s = { data := #[] }))) := (Sub.of_eq (by simp only [Go.Cdc.str_eq]))
  by_cases c1 : (s = { data := #[] })
  · have h := h.1 c1
    have hz1 : Am.Sub (int (↑(List.length (encL l)) : Int)) (int (↑(List.length l) : Int)) := (Sub.of_eq (by simp only [Go.Cdc.encL_length]))
    by_cases c2 : (n = (0 : Int))
    · have h := h.1 c2
      by_cases c3 : (k < (1 : Int))
      · have h := h.1 c3
        have _ := h
        exact callC_of [kv 11 hz0, kt (decide_eq_true c1), kv 15 hz1, kt (beq_iff_eq.2 c2), kv 24 hz1, kt (beq_iff_eq.2 c2), kv 33 hz0, kt (decide_eq_true c3), kt (Eq.refl true), kt (Eq.refl true)] (by kernel_rfl)
      · have h := h.2 c3
        have _ := h
        exact callC_of [kv 11 hz0, kt (decide_eq_true c1), kv 15 hz1, kt (beq_iff_eq.2 c2), kv 24 hz1, kt (beq_iff_eq.2 c2), kv 33 hz0, kf (decide_eq_false c3), kt (show decide (k > (3 : Int)) = true from (decide_eq_true (by omega))), kt (Eq.refl true)] (by kernel_rfl)
    · have h := h.2 c2
      by_cases c5 : (k < (1 : Int))
      · have h := h.1 c5
        have _ := h
        exact callC_of [kv 11 hz0, kt (decide_eq_true c1), kv 15 hz1, kf (beq_eq_false_iff_ne.2 c2), kf (beq_eq_false_iff_ne.2 c2), kt (decide_eq_true c5), kt (Eq.refl true), kt (Eq.refl true)] (by kernel_rfl)
      · have h := h.2 c5
        have _ := h
        exact callC_of [kv 11 hz0, kt (decide_eq_true c1), kv 15 hz1, kf (beq_eq_false_iff_ne.2 c2), kf (beq_eq_false_iff_ne.2 c2), kf (decide_eq_false c5), kt (show decide (k > (3 : Int)) = true from (decide_eq_true (by omega))), kt (Eq.refl true)] (by kernel_rfl)
  · have h := h.2 c1
    have hz1 : Am.Sub (int (↑(List.length (encL l)) : Int)) (int (↑(List.length l) : Int)) := (Sub.of_eq (by simp only [Go.Cdc.encL_length]))
    by_cases c7 : (n = (0 : Int))
    · have h := h.1 c7
      by_cases c8 : (k < (1 : Int))
      · have h := h.1 c8
        have _ := h
        exact callC_of [kv 11 hz0, kf (decide_eq_false c1), kt (beq_iff_eq.2 c7), kv 24 hz1, kt (beq_iff_eq.2 c7), kv 33 hz0, kt (decide_eq_true c8), kt (Eq.refl true), kt (Eq.refl true)] (by kernel_rfl)
      · have h := h.2 c8
        have _ := h
        exact callC_of [kv 11 hz0, kf (decide_eq_false c1), kt (beq_iff_eq.2 c7), kv 24 hz1, kt (beq_iff_eq.2 c7), kv 33 hz0, kf (decide_eq_false c8), kt (show decide (k > (3 : Int)) = true from (decide_eq_true (by omega))), kt (Eq.refl true)] (by kernel_rfl)
    · have h := h.2 c7
      by_cases c10 : (k < (1 : Int))
      · have h := h.1 c10
        have _ := h
        exact callC_of [kv 11 hz0, kf (decide_eq_false c1), kf (beq_eq_false_iff_ne.2 c7), kf (beq_eq_false_iff_ne.2 c7), kt (decide_eq_true c10), kt (Eq.refl true), kt (Eq.refl true)] (by kernel_rfl)
      · have h := h.2 c10
        have _ := h
        exact callC_of [kv 11 hz0, kf (decide_eq_false c1), kf (beq_eq_false_iff_ne.2 c7), kf (beq_eq_false_iff_ne.2 c7), kf (decide_eq_false c10), kt (show decide (k > (3 : Int)) = true from (decide_eq_true (by omega))), kt (Eq.refl true)] (by kernel_rfl)

def frmSt (l : List CV) (d : Int) (i : Nat) : St := { env := slots 74 [(2, int d), (3, bool false), (55, .sl 4 false (encL l)), (56, int l.length), (57, int i)], H := [] }

theorem frm_end (l : List CV) (d : Int) (i : Nat) (hi : l.length ≤ i) (h : True) : RunL P G none 0 (loopAt P 85 0) (frmSt l d i) (AEx.exit 0) { env := slots 74 [(2, int d), (3, Am.bool false)], H := [] } := by
  have _ := h
  exact loop_exit [kf (show decide ((↑i : Int) < (↑(List.length l) : Int)) = false from (decide_eq_false (by omega)))] (others 74 [2, 3]) 0 (by kernel_rfl)

theorem frm_step (l : List CV) (d i : Nat) (x : CV) (hi : i < l.length) (hl : l.length ≤ 9223372036854775807) (hx : l[i]? = some x) (hd : dp x ≤ 1000000) (hv : CallC P G 85 [val x] [] (.ret (.tup [int (if wf x = true then dp x else 0), bool (wf x)])) []) (ex : AEx) (a : Int) (b : Bool) (h : ((((wf x) = true) → RunL P G none 0 (loopAt P 85 0) { env := slots 74 [(2, int (if (if wf x = true then (↑(dp x) : Int) else 0) > (↑d : Int) then if wf x = true then (↑(dp x) : Int) else 0 else (↑d : Int))), (3, Am.bool false), (55, AV.sl 4 false (encL l)), (56, int (↑(List.length l) : Int)), (57, int (↑(i + 1) : Int))], H := [] } ex { env := slots 74 [(2, int a), (3, Am.bool b)], H := [] }) ∧ (((wf x) = false) → (AEx.ret = ex) ∧ ((0 : Int) = (a)) ∧ ((false) = (b))))) : RunL P G none 0 (loopAt P 85 0) (frmSt l (↑d : Int) i) ex { env := slots 74 [(2, int a), (3, Am.bool b)], H := [] } := by
  have hz0 : decide ((↑i : Int) < (↑(List.length l) : Int)) = true := (decide_eq_true (by omega))
  have hz1 : (0 : Int) ≤ (↑i : Int) ∧ (encL l)[Int.toNat (↑i : Int)]? = some (enc x) := (by rw [Go.Cdc.encL_map]; exact el_nat hx)
  have hz2 := (@hv )
  rcases Bool.eq_false_or_eq_true ((wf x)) with c2 | c2
  · have h := h.1 c2
    exact loop_next [kt hz0, ko (Orc.elem (enc x)), kp hz1, kc [] hz2, kf (show (!wf x) = false from (congrArg Bool.not (c2))), kv 71 (show Am.Sub (int (IntKind.wrap IntKind.i64 ((↑i : Int) + 1))) (int (↑(i + 1) : Int)) from (Sub.of_wrap (by omega) (by omega) (by omega)))] (others 74 [2, 3, 55, 56, 57]) 0 h (by kernel_rfl)
  · have h := h.2 c2
    obtain ⟨eX, e1, e2⟩ := h
    exact RunL.to ((show RunL P G none 0 (loopAt P 85 0) (frmSt l (↑d : Int) i) AEx.ret { env := slots 74 [(2, int 0), (3, Am.bool false)], H := [] } from loop_exit [kt hz0, ko (Orc.elem (enc x)), kp hz1, kc [] hz2, kt (show (!wf x) = true from (congrArg Bool.not (c2)))] (others 74 [2, 3]) 0 (by kernel_rfl))) eX (SubS.slots ⟨rfl, (Sub.int_eq e1), rfl, (Sub.bool_eq e2), trivial⟩)

theorem formed3_w (n : Int) (s : ByteArray) (l : List CV) (a : Int) (b : Bool) (hl : l.length ≤ 9223372036854775807) (hd : dpL l ≤ 1000000) (hL : RunL P G none 0 (loopAt P 85 0) (frmSt l 0 0) (if wfL l = true then .exit 0 else .ret) { env := slots 74 [(2, int (if wfL l = true then dpL l else 0)), (3, bool false)], H := [] }) (h : (((s = { data := #[] }) → (((n = (0 : Int)) → (((wfL l = true) → (((↑(dpL l + 1) : Int) : Int) = (a)) ∧ ((true) = (b))) ∧ ((¬wfL l = true) → ((0 : Int) = (a)) ∧ ((false) = (b))))) ∧ ((¬n = (0 : Int)) → ((0 : Int) = (a)) ∧ ((false) = (b))))) ∧ ((¬s = { data := #[] }) → (((n = (0 : Int)) → ((0 : Int) = (a)) ∧ ((false) = (b))) ∧ ((¬n = (0 : Int)) → ((0 : Int) = (a)) ∧ ((false) = (b))))))) : CallC P G 85 [vmk 3 n s l] [] (AOut.ret (AV.tup [int a, Am.bool b])) [] := by
  have hz0 : Am.Sub (Am.bool (ByteArray.toList s == ByteArray.toList { data := #[] })) (Am.bool (decide (s = { data := #[] }))) := (Sub.of_eq (by simp only [Go.Cdc.str_eq]))
  by_cases c1 : (s = { data := #[] })
  · have h := h.1 c1
    have hz1 : Am.Sub (int (↑(List.length (encL l)) : Int)) (int (↑(List.length l) : Int)) := (Sub.of_eq (by simp only [Go.Cdc.encL_length]))
    have hz3 : (!decide (s = { data := #[] })) = false := (congrArg Bool.not (decide_eq_true c1))
    by_cases c2 : (n = (0 : Int))
    · have h := h.1 c2
      have hz2 : (0 : Int) ≤ (3 : Int) ∧ (3 : Int) < (4 : Int) := (by omega)
      by_cases c3 : (wfL l = true)
      · have h := h.1 c3
        obtain ⟨e1, e2⟩ := h
        exact CallC.out ((show CallC P G 85 [vmk 3 n s l] [] (AOut.ret (AV.tup [int (↑(dpL l + 1) : Int), Am.bool true])) [] from callC_of [kv 11 hz0, kt (decide_eq_true c1), kv 15 hz1, kt (beq_iff_eq.2 c2), kv 24 hz1, kt (beq_iff_eq.2 c2), kv 33 hz0, kf (Eq.refl false), kf (Eq.refl false), kp hz2, kf hz3, kf (Eq.refl false), kv 56 hz1, kl [0, 1, 4, 5, 6, 7, 8, 9, 10, 11, 12, 13, 14, 15, 16, 17, 18, 19, 20, 21, 22, 23, 24, 25, 26, 27, 28, 29, 30, 31, 32, 33, 34, 35, 36, 37, 38, 39, 40, 41, 42, 43, 44, 45, 46, 47, 48, 49, 50, 51, 52, 53, 54, 58, 59, 60, 61, 62, 63, 64, 65, 66, 67, 68, 69, 70, 71, 72, 73] 0 (show RunL P G none 0 (loopAt P 85 0) { env := slots 74 [(2, int 0), (3, Am.bool false), (55, AV.sl 4 false (encL l)), (56, int (↑(List.length l) : Int)), (57, int 0)], H := [] } (AEx.exit 0) { env := slots 74 [(2, int (↑(dpL l) : Int)), (3, Am.bool false)], H := [] } from (by have h0 := (@hL ); simp only [if_pos c3] at h0; exact h0)), kv 73 (show Am.Sub (int (IntKind.wrap IntKind.i64 ((↑(dpL l) : Int) + 1))) (int (↑(dpL l + 1) : Int)) from (Sub.of_wrap (by omega) (by omega) (by omega)))] (by kernel_rfl))) (Sub.tups ⟨(Sub.int_eq e1), (Sub.bool_eq e2), trivial⟩)
      · have h := h.2 c3
        obtain ⟨e1, e2⟩ := h
        exact CallC.out ((show CallC P G 85 [vmk 3 n s l] [] (AOut.ret (AV.tup [int 0, Am.bool false])) [] from callC_of [kv 11 hz0, kt (decide_eq_true c1), kv 15 hz1, kt (beq_iff_eq.2 c2), kv 24 hz1, kt (beq_iff_eq.2 c2), kv 33 hz0, kf (Eq.refl false), kf (Eq.refl false), kp hz2, kf hz3, kf (Eq.refl false), kv 56 hz1, kl [0, 1, 4, 5, 6, 7, 8, 9, 10, 11, 12, 13, 14, 15, 16, 17, 18, 19, 20, 21, 22, 23, 24, 25, 26, 27, 28, 29, 30, 31, 32, 33, 34, 35, 36, 37, 38, 39, 40, 41, 42, 43, 44, 45, 46, 47, 48, 49, 50, 51, 52, 53, 54, 58, 59, 60, 61, 62, 63, 64, 65, 66, 67, 68, 69, 70, 71, 72, 73] 0 (show RunL P G none 0 (loopAt P 85 0) { env := slots 74 [(2, int 0), (3, Am.bool false), (55, AV.sl 4 false (encL l)), (56, int (↑(List.length l) : Int)), (57, int 0)], H := [] } AEx.ret { env := slots 74 [(2, int 0), (3, Am.bool false)], H := [] } from (by have h0 := (@hL ); simp only [if_neg c3] at h0; exact h0))] (by kernel_rfl))) (Sub.tups ⟨(Sub.int_eq e1), (Sub.bool_eq e2), trivial⟩)
    · have h := h.2 c2
      obtain ⟨e1, e2⟩ := h
      exact CallC.out ((show CallC P G 85 [vmk 3 n s l] [] (AOut.ret (AV.tup [int 0, Am.bool false])) [] from callC_of [kv 11 hz0, kt (decide_eq_true c1), kv 15 hz1, kf (beq_eq_false_iff_ne.2 c2), kf (beq_eq_false_iff_ne.2 c2), kf (Eq.refl false), kf (Eq.refl false), kp (show (0 : Int) ≤ (3 : Int) ∧ (3 : Int) < (4 : Int) from (by omega)), kt (Eq.refl true)] (by kernel_rfl))) (Sub.tups ⟨(Sub.int_eq e1), (Sub.bool_eq e2), trivial⟩)
  · have h := h.2 c1
    by_cases c4 : (n = (0 : Int))
    · have h := h.1 c4
      obtain ⟨e1, e2⟩ := h
      exact CallC.out ((show CallC P G 85 [vmk 3 n s l] [] (AOut.ret (AV.tup [int 0, Am.bool false])) [] from callC_of [kv 11 hz0, kf (decide_eq_false c1), kt (beq_iff_eq.2 c4), kv 24 (show Am.Sub (int (↑(List.length (encL l)) : Int)) (int (↑(List.length l) : Int)) from (Sub.of_eq (by simp only [Go.Cdc.encL_length]))), kt (beq_iff_eq.2 c4), kv 33 hz0, kf (Eq.refl false), kf (Eq.refl false), kp (show (0 : Int) ≤ (3 : Int) ∧ (3 : Int) < (4 : Int) from (by omega)), kt (show (!decide (s = { data := #[] })) = true from (congrArg Bool.not (decide_eq_false c1)))] (by kernel_rfl))) (Sub.tups ⟨(Sub.int_eq e1), (Sub.bool_eq e2), trivial⟩)
    · have h := h.2 c4
      obtain ⟨e1, e2⟩ := h
      exact CallC.out ((show CallC P G 85 [vmk 3 n s l] [] (AOut.ret (AV.tup [int 0, Am.bool false])) [] from callC_of [kv 11 hz0, kf (decide_eq_false c1), kf (beq_eq_false_iff_ne.2 c4), kf (beq_eq_false_iff_ne.2 c4), kf (Eq.refl false), kf (Eq.refl false), kp (show (0 : Int) ≤ (3 : Int) ∧ (3 : Int) < (4 : Int) from (by omega)), kt (Eq.refl true)] (by kernel_rfl))) (Sub.tups ⟨(Sub.int_eq e1), (Sub.bool_eq e2), trivial⟩)

theorem frm_loop (l : List CV) (hl : l.length ≤ 9223372036854775807) (hd : dpL l ≤ 1000000) (hv : ∀ x ∈ l, FormedC x) : ∀ (m i d : Nat), l.length - i = m → i ≤ l.length → d ≤ 1000000 →
    RunL P G none 0 (loopAt P 85 0) (frmSt l d i) (if wfL (l.drop i) = true then .exit 0 else .ret) { env := slots 74 [(2, int (if wfL (l.drop i) = true then ((max d (dpL (l.drop i)) : Nat) : Int) else 0)), (3, bool false)], H := [] } := by
  intro m
  induction m with
  | zero =>
    intro i d hm hi hd'
    rw [List.drop_of_length_le (by omega)]
    simp only [wfL, dpL, if_true, Nat.max_zero]
    exact frm_end l d i (by omega) trivial
  | succ m ih =>
    intro i d hm hi hd'
    have hlt : i < l.length := by omega
    have hx : l[i]? = some l[i] := List.getElem?_eq_getElem hlt
    have hmem : l[i] ∈ l := List.getElem_mem hlt
    have hdx := dp_mem hmem
    have e := List.drop_eq_getElem_cons hlt
    refine frm_step l d i l[i] hlt hl hx (by omega) (hv _ hmem) _ _ _ ⟨fun h => ?_, fun h => ?_⟩
    · have := ih (i + 1) (max d (dp l[i])) (by omega) (by omega) (by omega)
      rw [e]
      simp only [wfL, dpL, h, Bool.true_and, if_true]
      have e2 : (if ((dp l[i] : Nat) : Int) > (d : Int) then ((dp l[i] : Nat) : Int) else (d : Int)) = ((max d (dp l[i]) : Nat) : Int) := by
        split <;> omega
      rw [e2]
      unfold frmSt at this
      rw [show max d (max (dp l[i]) (dpL (l.drop (i + 1)))) = max (max d (dp l[i])) (dpL (l.drop (i + 1))) by omega]
      exact this
    · rw [e]
      simp only [wfL, h, Bool.false_and, Bool.false_eq_true, if_false]
      exact ⟨trivial, trivial, trivial⟩

theorem formed_c (v : CV) : Okv v → dp v ≤ 1000001 → FormedC v := by
  refine CV.ind (p := fun v => Okv v → dp v ≤ 1000001 → FormedC v) (fun k n s l ih hok hd => ?_) v
  cases hok with
  | mk _ _ _ _ hn hs hl hall =>
    unfold FormedC
    rw [val_mk]
    by_cases h1 : k = 1
    · subst h1
      have e : ((if wf (.mk 1 n s l) = true then dp (.mk 1 n s l) else 0 : Nat) : Int) = 0 := by simp [dp]
      have e' : (if wf (.mk 1 n s l) = true then ((dp (.mk 1 n s l) : Nat) : Int) else 0) = 0 := by simp [dp]
      rw [e']
      have ew : wf (.mk 1 n s l) = (decide (s = .empty) && decide (l.length = 0)) := by simp [wf]
      rw [ew]
      have T : s = .empty → (l.length : Int) = 0 → (0 : Int) = 0 ∧ true = (decide (s = .empty) && decide (l.length = 0)) := fun a b => ⟨rfl, by rw [decide_eq_true a, decide_eq_true (by omega)]; rfl⟩
      have F1 : s = .empty → ¬ (l.length : Int) = 0 → (0 : Int) = 0 ∧ false = (decide (s = .empty) && decide (l.length = 0)) := fun a b => ⟨rfl, by rw [decide_eq_true a, decide_eq_false (by omega)]; rfl⟩
      have F2 : ¬ s = .empty → (0 : Int) = 0 ∧ false = (decide (s = .empty) && decide (l.length = 0)) := fun a => ⟨rfl, by rw [decide_eq_false a]; rfl⟩
      exact formed1_w n s l _ _ ⟨fun a => ⟨fun _ => ⟨T a, F1 a⟩, fun _ => ⟨T a, F1 a⟩⟩, fun a => ⟨fun _ => F2 a, fun _ => F2 a⟩⟩
    · by_cases h2 : k = 2
      · subst h2
        have e' : (if wf (.mk 2 n s l) = true then ((dp (.mk 2 n s l) : Nat) : Int) else 0) = 0 := by simp [dp]
        rw [e']
        have ew : wf (.mk 2 n s l) = (decide (n = 0) && decide (l.length = 0)) := by simp [wf]
        rw [ew]
        have T : n = 0 → (l.length : Int) = 0 → (0 : Int) = 0 ∧ true = (decide (n = 0) && decide (l.length = 0)) := fun a b => ⟨rfl, by rw [decide_eq_true a, decide_eq_true (by omega)]; rfl⟩
        have F1 : n = 0 → ¬ (l.length : Int) = 0 → (0 : Int) = 0 ∧ false = (decide (n = 0) && decide (l.length = 0)) := fun a b => ⟨rfl, by rw [decide_eq_true a, decide_eq_false (by omega)]; rfl⟩
        have F2 : ¬ n = 0 → (0 : Int) = 0 ∧ false = (decide (n = 0) && decide (l.length = 0)) := fun a => ⟨rfl, by rw [decide_eq_false a]; rfl⟩
        exact formed2_w n s l _ _ ⟨fun _ => ⟨fun a => ⟨T a, F1 a⟩, F2⟩, fun _ => ⟨fun a => ⟨T a, F1 a⟩, F2⟩⟩
      · by_cases h3 : k = 3
        · subst h3
          have hd3 : dpL l ≤ 1000000 := by simp only [dp, if_true] at hd; omega
          have hL := frm_loop l hl hd3 (fun x hx => ih x hx (hall x hx) (by have := dp_mem hx; omega)) l.length 0 0 (by omega) (by omega) (by omega)
          rw [List.drop_zero, Nat.zero_max] at hL
          have ew : wf (.mk 3 n s l) = (decide (n = 0) && decide (s = .empty) && wfL l) := by simp [wf]
          have ed : dp (.mk 3 n s l) = dpL l + 1 := by simp [dp]
          rw [ew, ed]
          refine formed3_w n s l _ _ hl hd3 hL ⟨fun hs => ⟨fun hn => ⟨fun hw => ?_, fun hw => ?_⟩, fun hn => ?_⟩, fun hs => ⟨fun hn => ?_, fun hn => ?_⟩⟩ <;>
            (rw [empty_eq] at hs; simp [hn, hs]) <;> (try simp [hw])
        · have e : wf (.mk k n s l) = false := by simp [wf, h1, h2, h3]
          rw [e]
          simp only [Bool.false_eq_true, if_false]
          exact formedx_w k n s l (by omega) (by simp)

end Go.Cdc

/- THE ABSTRACT MACHINE, 27: own slices in boxes put as data at a loop's end. -/
namespace Go.Am
set_option maxRecDepth 100000
open Go
section
variable {P : Program} {G : Nat → Option (List AV)}

/-- A loop's end, an own slice in a box's cell put as data. -/
theorem frzBox_step {V : View} {b j : Nat} {cells : List AV} {x y : AV} {z : List (List AV)} {H1 : List AObj} {ps : List Prop} (hG : HeapRep G V) (hb : V.H[b]? = some (.box cells)) (hb1 : H1[b]? = some (.box cells)) (hj : cells[j]? = some x)
    (ha : evalFrz V.H x z = some (y, H1, ps)) (hps : AllP ps) : ∃ V' : View, V'.w = V.w ∧ V'.H = H1.set b (.box (cells.set j y)) ∧ Step V V' ∧ HeapRep G V' := by
  obtain ⟨t, vs, h1, h2⟩ := hG.obj b _ hb
  have hjl := (List.getElem?_eq_some_iff.1 hj).1
  have hx : Rep V x (vs.getD j undef) := by
    have := h2.2 j hjl
    rwa [show cells.getD j .dead = x by rw [List.getD_eq_getElem?_getD, hj]; rfl] at this
  obtain ⟨V1, k1, k2, k3, k4, k5⟩ := frz_sound ha hps hG hx
  have hob := k4.obj b _ (by rw [k2]; exact hb1)
  obtain ⟨t', vs', o1, o2⟩ := hob
  have hρ : V1.ρ b = V.ρ b := by
    have hlt := (List.getElem?_eq_some_iff.1 hb).1
    have := k3.obj b hlt
    unfold ObjStep at this
    rw [hb, k2, hb1] at this
    exact this
  have hev : vs' = vs := by
    rw [hρ, k1, h1] at o1
    injection o1 with o1
    injection o1 with o1
    simpa using o1.symm
  subst hev
  have hr : Reps V1 (cells.set j y) vs' := by
    have := o2.set j k5
    have e : vs'.set j (vs'.getD j undef) = vs' := by
      apply List.ext_getElem?
      intro i
      rw [List.getElem?_set]
      split
      · rename_i e; subst e
        have : j < vs'.length := by rw [o2.1]; exact hjl
        rw [if_pos this, List.getD_eq_getElem?_getD, List.getElem?_eq_getElem this]; rfl
      · rfl
    rwa [e] at this
  obtain ⟨V2, l1, l2, l3, l4⟩ := step_set (obj := .box cells) (obj' := .box (cells.set j y)) (w' := V1.w) k4 (by rw [k2]; exact hb1) rfl o1 o1 rfl (fun _ _ => rfl) rfl rfl rfl rfl trivial (fun V' hw hs => ⟨t', vs', by rw [hw]; exact o1, hr.step hs⟩)
  exact ⟨V2, l1.trans k1, by rw [l2, k2], k3.trans l3, l4⟩
theorem RunL.frzBox {r : Option Nat} {n0 : Nat} {c : Code} {s s' : St} {ex : AEx} {b j : Nat} {cells : List AV} {x y : AV} {z : List (List AV)} {H1 : List AObj} {ps : List Prop} (h : RunL P G r n0 c s ex s') (hb : s'.H[b]? = some (.box cells)) (hb1 : H1[b]? = some (.box cells)) (hj : cells[j]? = some x)
    (ha : evalFrz s'.H x z = some (y, H1, ps)) (hps : AllP ps) : RunL P G r n0 c s ex { env := s'.env, H := H1.set b (.box (cells.set j y)), defs := s'.defs } :=
  fun V0 V a h0 k1 k2 k3 => LoopIn.mono (h V0 V a h0 k1 k2 k3) fun _ _ _ hE => by
    obtain ⟨V1, rfl, l1, l2, l3, l4⟩ := hE
    obtain ⟨V2, a1, a2, a3, a4⟩ := frzBox_step l2 (l3.H ▸ hb) hb1 hj (l3.H ▸ ha) hps
    exact ⟨V2, a1, l1.trans a3, a4, ⟨l3.env.step a3, a2, l3.defs.step a3⟩, l4.step a3⟩
/-- A loop's end, its last objects let go. -/
theorem RunL.cut {r : Option Nat} {n0 : Nat} {c : Code} {s s' s2 : St} {ex : AEx} {ps : List Prop} (n : Nat) (h : RunL P G r n0 c s ex s') (hex : ∀ x, ex ≠ .pan x) (hw : weakA n0 [] n s' = some (s2, ps)) (hps : AllP ps) : RunL P G r n0 c s ex s2 :=
  fun V0 V a h0 k1 k2 k3 => LoopIn.mono (h V0 V a h0 k1 k2 k3) fun e _ _ hE => by
    obtain ⟨V1, rfl, l1, l2, l3, l4⟩ := hE
    obtain ⟨V2, m1, m2, m3, m4⟩ := weak_sound hw hps h0 l1 l2 l3
    exact ⟨V2, m1, m2, m3, m4, by cases ex <;> cases e <;> first | exact l4 | exact (hex _ rfl).elim⟩
end
end Go.Am

/- OPS, 6: the program's Encode. -/
namespace Go.Ops
set_option maxRecDepth 100000
set_option linter.unusedSimpArgs false
set_option linter.unusedVariables false
open Go Go.Am Go.Proofs Go.Seat Go.Vec Go.Cdc

def cvI (n : Int) : CV := .mk 1 n .empty []
def cvT (s : ByteArray) : CV := .mk 2 0 s []
def cvL (l : List CV) : CV := .mk 3 0 .empty l

theorem num_w (n : Int) (h : True) : CallC P G 45 [int n] [] (AOut.ret (vmk 1 n ByteArray.empty [])) [] := by
  have _ := h
  exact CallC.out ((show CallC P G 45 [int n] [] (AOut.ret (AV.agg [int 1, int n, str { data := #[] }, nilS])) [] from callC_of [] (by kernel_rfl))) (Sub.aggs ⟨Sub.refl _, Sub.refl _, Sub.refl _, Sub.nil _, trivial⟩)

theorem text_w (s : ByteArray) (h : True) : CallC P G 46 [str s] [] (AOut.ret (vmk 2 0 s [])) [] := by
  have _ := h
  exact CallC.out ((show CallC P G 46 [str s] [] (AOut.ret (AV.agg [int 2, int 0, str s, nilS])) [] from callC_of [] (by kernel_rfl))) (Sub.aggs ⟨Sub.refl _, Sub.refl _, Sub.refl _, Sub.nil _, trivial⟩)

theorem list_w (t : Bool) (xs : List (List AV)) (h : True) : CallC P G 44 [AV.sl 4 t xs] [] (AOut.ret (AV.agg [int 3, int 0, str ByteArray.empty, AV.sl 4 false xs])) [] := by
  have _ := h
  exact CallC.out ((show CallC P G 44 [AV.sl 4 t xs] [] (AOut.ret (AV.agg [int 3, int 0, str { data := #[] }, AV.sl 4 t xs])) [] from callC_of [] (by kernel_rfl))) (Sub.aggs ⟨Sub.refl _, Sub.refl _, Sub.refl _, (Sub.loose _ _ _), trivial⟩)

theorem list_0  (h : True) : CallC P G 44 [nilS] [] (AOut.ret (AV.agg [int 3, int 0, str ByteArray.empty, nilS])) [] := by
  have _ := h
  exact callC_of [] (by kernel_rfl)

theorem num_c (n : Int) : CallC P G 45 [int n] [] (.ret (vmk 1 n .empty [])) [] := num_w n trivial
theorem text_c (s : ByteArray) : CallC P G 46 [str s] [] (.ret (vmk 2 0 s [])) [] := text_w s trivial
theorem list_c (t : Bool) (xs : List (List AV)) : CallC P G 44 [.sl 4 t xs] [] (.ret (.agg [int 3, int 0, str .empty, .sl 4 false xs])) [] := list_w t xs trivial
theorem list0_c : CallC P G 44 [nilS] [] (.ret (.agg [int 3, int 0, str .empty, nilS])) [] := list_0 trivial

theorem id_w (a b c : Int) (h : True) : CallC P G 47 [ida a b c] [] (AOut.ret (vmk 3 0 ByteArray.empty [cvI a, cvI b, cvI c])) [] := by
  have _ := h
  exact callC_of [kc [] (@Go.Ops.num_c (a)), kc [] (@Go.Ops.num_c (b)), kc [] (@Go.Ops.num_c (c)), kc [] (@Go.Ops.list_c (true) ([[int 1, int a, str ByteArray.empty, AV.sl 4 false []], [int 1, int b, str ByteArray.empty, AV.sl 4 false []], [int 1, int c, str ByteArray.empty, AV.sl 4 false []]]))] (by kernel_rfl)

theorem id_c (a b c : Int) : CallC P G 47 [ida a b c] [] (.ret (vmk 3 0 .empty [cvI a, cvI b, cvI c])) [] := id_w a b c trivial

def cvD (d : D) : CV := cvL [cvI d.1, cvI d.2]
def encSt0 (o : OP) (k : Nat) : St := { env := slots 85 [(1, .ptr 0 0), (5, .ptr 1 0), (16, vec o.cx), (17, int o.cx.length), (18, int k)], H := [.box (opc o), .box [int 3, int 0, str .empty, nilS]] }
def encSt1 (o : OP) (g : Nat) (cs : List CV) (k : Nat) : St := { env := slots 85 [(1, .ptr 0 0), (5, .ptr 1 0), (16, vec o.cx), (17, int o.cx.length), (18, int k)], H := [.box (opc o), .box [int 3, int 0, str .empty, .own 3 g 0 cs.length], .gone, .arr g 4 false (encL cs)] }

theorem el0_w (o : OP) (k : Nat) (x y : Int) (hk : k < o.cx.length) (hx : o.cx[k]? = some (x, y)) (hl : o.cx.length ≤ 1000000000) (ex : AEx) (s' : St) (h : RunL P G none 0 (loopAt P 18 0) { env := slots 85 [(1, AV.ptr 0 0), (5, AV.ptr 1 0), (16, AV.sl 2 false (encs (OP.cx o))), (17, int (↑(List.length (OP.cx o)) : Int)), (18, int (↑(k + 1) : Int))], H := [AObj.box [int (OP.dv o), int (OP.sq o), int (OP.tm o), AV.sl 2 false (encs (OP.cx o)), int (OP.pk o), str (OP.pn o), int (OP.kd o), int (OP.f1 o), int (OP.f2 o), int (OP.f3 o), int (OP.t1 o), int (OP.t2 o), int (OP.t3 o), str (OP.ky o), str (OP.vl o), int (OP.n o), Am.bool (OP.on o)], AObj.box [int 3, int 0, str ByteArray.empty, AV.own 3 0 0 1], AObj.box [int x, int y], AObj.arr 0 4 false [[int 3, int 0, str ByteArray.empty, AV.sl 4 false [[int 1, int x, str ByteArray.empty, AV.sl 4 false []], [int 1, int y, str ByteArray.empty, AV.sl 4 false []]]]]] } ex s') : RunL P G none 0 (loopAt P 18 0) (encSt0 o k) ex s' := by
  exact loop_next [kt (show decide ((↑k : Int) < (↑(List.length (OP.cx o)) : Int)) = true from (decide_eq_true (by omega))), ko (Orc.elem (Vec.enc (x, y))), kp (show (0 : Int) ≤ (↑k : Int) ∧ (encs (OP.cx o))[Int.toNat (↑k : Int)]? = some (Vec.enc (x, y)) from (el_nat hx)), kc [] (@Go.Ops.num_c (x)), kc [] (@Go.Ops.num_c (y)), kc [] (@Go.Ops.list_c (true) ([[int 1, int x, str ByteArray.empty, AV.sl 4 false []], [int 1, int y, str ByteArray.empty, AV.sl 4 false []]])), kp (show [[int 3, int 0, str ByteArray.empty, AV.sl 4 false [[int 1, int x, str ByteArray.empty, AV.sl 4 false []], [int 1, int y, str ByteArray.empty, AV.sl 4 false []]]]] ≠ [] from (by simp)), kp (show 56 ≤ 140737488355328 from (by omega)), kv 35 (show Am.Sub (int (IntKind.wrap IntKind.i64 ((↑k : Int) + 1))) (int (↑(k + 1) : Int)) from (Sub.of_wrap (by omega) (by omega) (by omega)))] (others 85 [1, 5, 16, 17, 18]) 4 h (by kernel_rfl)

theorem el1_w (o : OP) (g : Nat) (cs : List CV) (k : Nat) (x y : Int) (hk : k < o.cx.length) (hx : o.cx[k]? = some (x, y)) (hl : o.cx.length ≤ 1000000000) (hcs : cs.length ≤ 1000000000) (ex : AEx) (s' : St) (h : ((∀ (x_1 : List AV), x_1 ∈ encL cs ++ chunks (TypeInfo.size (Tables.types (Program.toTables P))[46]) 1 (splice (zerosA (List.map AV.lit (Array.toList (Value.cells (Value.agg #[Value.int IntKind.i64 0, Value.int IntKind.i64 0, Value.string { data := #[] }, Value.slice none 0 0])))) (1 * TypeInfo.size (Tables.types (Program.toTables P))[46])) (0 * TypeInfo.size (Tables.types (Program.toTables P))[46]) [int 3, int 0, str ByteArray.empty, AV.sl 4 false [[int 1, int x, str ByteArray.empty, AV.sl 4 false []], [int 1, int y, str ByteArray.empty, AV.sl 4 false []]]]) → AV.idsInL [] x_1 = true) ∧ RunL P G none 0 (loopAt P 18 0) { env := slots 85 [(1, AV.ptr 0 0), (5, AV.ptr 1 0), (16, AV.sl 2 false (encs (OP.cx o))), (17, int (↑(List.length (OP.cx o)) : Int)), (18, int (↑(k + 1) : Int))], H := [AObj.box [int (OP.dv o), int (OP.sq o), int (OP.tm o), AV.sl 2 false (encs (OP.cx o)), int (OP.pk o), str (OP.pn o), int (OP.kd o), int (OP.f1 o), int (OP.f2 o), int (OP.f3 o), int (OP.t1 o), int (OP.t2 o), int (OP.t3 o), str (OP.ky o), str (OP.vl o), int (OP.n o), Am.bool (OP.on o)], AObj.box [int 3, int 0, str ByteArray.empty, AV.own 3 (g + 1) 0 (List.length cs + 1)], AObj.gone, AObj.arr (g + 1) 4 false (encL cs ++ [[int 3, int 0, str ByteArray.empty, AV.sl 4 false [[int 1, int x, str ByteArray.empty, AV.sl 4 false []], [int 1, int y, str ByteArray.empty, AV.sl 4 false []]]]])] } ex s')) : RunL P G none 0 (loopAt P 18 0) (encSt1 o g cs k) ex s' := by
  obtain ⟨o2, h⟩ := h
  exact loop_next [kt (show decide ((↑k : Int) < (↑(List.length (OP.cx o)) : Int)) = true from (decide_eq_true (by omega))), ko (Orc.elem (Vec.enc (x, y))), kp (show (0 : Int) ≤ (↑k : Int) ∧ (encs (OP.cx o))[Int.toNat (↑k : Int)]? = some (Vec.enc (x, y)) from (el_nat hx)), kc [] (@Go.Ops.num_c (x)), kc [] (@Go.Ops.num_c (y)), kc [] (@Go.Ops.list_c (true) ([[int 1, int x, str ByteArray.empty, AV.sl 4 false []], [int 1, int y, str ByteArray.empty, AV.sl 4 false []]])), kp (show g = g from (rfl)), kp (show List.length cs = List.length (encL cs) from ((Go.Cdc.encL_length _).symm)), kp (show (List.length cs + 1) * 56 ≤ 140737488355328 from (by omega)), kv 35 (show Am.Sub (int (IntKind.wrap IntKind.i64 ((↑k : Int) + 1))) (int (↑(k + 1) : Int)) from (Sub.of_wrap (by omega) (by omega) (by omega))), kp o2] (others 85 [1, 5, 16, 17, 18]) 4 h (by kernel_rfl)

theorem el0_end (o : OP) (k : Nat) (hk : o.cx.length ≤ k) (h : True) : RunL P G none 0 (loopAt P 18 0) (encSt0 o k) (AEx.exit 0) { env := slots 85 [(1, AV.ptr 0 0), (5, AV.ptr 1 0)], H := [AObj.box (opc o), AObj.box [int 3, int 0, str ByteArray.empty, nilS]] } := by
  have _ := h
  exact loop_exit [kf (show decide ((↑k : Int) < (↑(List.length (OP.cx o)) : Int)) = false from (decide_eq_false (by omega)))] (others 85 [1, 5]) 2 (by kernel_rfl)

theorem el1_end (o : OP) (g : Nat) (cs : List CV) (k : Nat) (hk : o.cx.length ≤ k) (h : True) : RunL P G none 0 (loopAt P 18 0) (encSt1 o g cs k) (AEx.exit 0) { env := slots 85 [(1, AV.ptr 0 0), (5, AV.ptr 1 0)], H := [AObj.box (opc o), AObj.box [int 3, int 0, str ByteArray.empty, AV.own 3 g 0 (List.length cs)], AObj.gone, AObj.arr g 4 false (encL cs)] } := by
  have _ := h
  exact loop_exit [kf (show decide ((↑k : Int) < (↑(List.length (OP.cx o)) : Int)) = false from (decide_eq_false (by omega)))] (others 85 [1, 5]) 4 (by kernel_rfl)

theorem encL_snoc (l : List CV) (v : CV) : encL l ++ [enc v] = encL (l ++ [v]) := by
  rw [encL_map, encL_map, List.map_append]; rfl
theorem encL_idsIn (l : List CV) : ∀ x ∈ encL l, AV.idsInL [] x = true := by
  intro x hx
  rw [encL_map] at hx
  obtain ⟨v, _, rfl⟩ := List.mem_map.1 hx
  cases v; rfl
theorem encL_pure (l : List CV) : ∀ x ∈ encL l, x.all AV.pureB = true := by
  intro x hx
  rw [encL_map] at hx
  obtain ⟨v, _, rfl⟩ := List.mem_map.1 hx
  cases v; rfl
def ctxV (o : OP) : CV := cvL (o.cx.map cvD)

theorem el1_loop (o : OP) (hl : o.cx.length ≤ 1000000000) : ∀ (m k g : Nat), o.cx.length - k = m → k ≤ o.cx.length →
    ∃ g', RunL P G none 0 (loopAt P 18 0) (encSt1 o g ((o.cx.take k).map cvD) k) (.exit 0) { env := slots 85 [(1, .ptr 0 0), (5, .ptr 1 0)], H := [.box (opc o), .box [int 3, int 0, str .empty, .own 3 g' 0 (o.cx.map cvD).length], .gone, .arr g' 4 false (encL (o.cx.map cvD))] } := by
  intro m
  induction m with
  | zero =>
    intro k g hm hk
    have e : o.cx.take k = o.cx := List.take_of_length_le (by omega)
    rw [e]
    exact ⟨g, el1_end o g _ k (by omega) trivial⟩
  | succ m ih =>
    intro k g hm hk
    have hlt : k < o.cx.length := by omega
    obtain ⟨g', h⟩ := ih (k + 1) (g + 1) (by omega) (by omega)
    refine ⟨g', el1_w o g _ k o.cx[k].1 o.cx[k].2 hlt (by rw [List.getElem?_eq_getElem hlt]) hl (by simp; omega) _ _ ⟨fun x hx => ?_, ?_⟩⟩
    · rcases List.mem_append.1 hx with hx | hx
      · exact encL_idsIn _ x hx
      · have : x = enc (cvD o.cx[k]) := List.mem_singleton.1 hx
        subst this; rfl
    · have e : (o.cx.take (k + 1)).map cvD = (o.cx.take k).map cvD ++ [cvD o.cx[k]] := by
        rw [List.take_add_one, List.getElem?_eq_getElem hlt, List.map_append]; rfl
      rw [e] at h
      unfold encSt1 at h
      rw [← encL_snoc, List.length_append] at h
      exact h
theorem el_loop (o : OP) (hl : o.cx.length ≤ 1000000000) :
    (o.cx = [] ∧ RunL P G none 0 (loopAt P 18 0) (encSt0 o 0) (.exit 0) { env := slots 85 [(1, .ptr 0 0), (5, .ptr 1 0)], H := [.box (opc o), .box [int 3, int 0, str .empty, nilS]] }) ∨
    ∃ g', RunL P G none 0 (loopAt P 18 0) (encSt0 o 0) (.exit 0) { env := slots 85 [(1, .ptr 0 0), (5, .ptr 1 0)], H := [.box (opc o), .box [int 3, int 0, str .empty, .own 3 g' 0 (o.cx.map cvD).length], .gone, .arr g' 4 false (encL (o.cx.map cvD))] } := by
  by_cases h0 : o.cx.length = 0
  · exact .inl ⟨List.eq_nil_of_length_eq_zero h0, el0_end o 0 (by omega) trivial⟩
  · have hlt : 0 < o.cx.length := by omega
    obtain ⟨g', h⟩ := el1_loop o hl (o.cx.length - 1) 1 0 rfl (by omega)
    refine .inr ⟨g', el0_w o 0 o.cx[0].1 o.cx[0].2 hlt (by rw [List.getElem?_eq_getElem hlt]) hl _ _ ?_⟩
    have e : (o.cx.take 1).map cvD = [cvD o.cx[0]] := by
      rw [List.take_one, List.head?_eq_getElem?, List.getElem?_eq_getElem hlt]; rfl
    rw [e] at h
    exact RunL.preH h ⟨.inl rfl, .inl rfl, .inr trivial, .inl rfl, trivial⟩
/-- The loop over the context: it leaves the context's value. -/
theorem el_c (o : OP) (hl : o.cx.length ≤ 1000000000) : (o.cx = [] ∧ RunL P G none 0 (loopAt P 18 0) (encSt0 o 0) (.exit 0) { env := slots 85 [(1, .ptr 0 0), (5, .ptr 1 0)], H := [.box (opc o), .box (enc (ctxV o))] }) ∨
    RunL P G none 0 (loopAt P 18 0) (encSt0 o 0) (.exit 0) { env := slots 85 [(1, .ptr 0 0), (5, .ptr 1 0)], H := [.box (opc o), .box (enc (ctxV o)), .gone, .gone] } := by
  rcases el_loop o hl with ⟨h0, h⟩ | ⟨g', h⟩
  · refine .inl ⟨h0, RunL.postH h ⟨.inl rfl, .inr ⟨rfl, fun j hj => ?_⟩, trivial⟩⟩
    unfold ctxV
    rw [h0]
    match j, hj with
    | 0, _ => exact Sub.refl _
    | 1, _ => exact Sub.refl _
    | 2, _ => exact Sub.refl _
    | 3, _ => exact Sub.nil 4
  · refine .inr ?_
    have h2 := RunL.frzBox (b := 1) (j := 3) (z := encL (o.cx.map cvD)) h rfl (H1 := [.box (opc o), .box [int 3, int 0, str .empty, .own 3 g' 0 (o.cx.map cvD).length], .gone, .arr g' 4 true (encL (o.cx.map cvD))]) rfl rfl rfl ⟨rfl, encL_all _, encL_length _, encL_pure _, trivial⟩
    exact RunL.postH h2 ⟨.inl rfl, .inl rfl, .inl rfl, .inr trivial, trivial⟩

/-- An operation as a value. -/
def opW (o : OP) (b : Int) : CV := cvL [cvI o.dv, cvI o.sq, cvI o.tm, ctxV o, cvL [cvI o.pk, cvT o.pn], cvI o.kd, cvL [cvI o.f1, cvI o.f2, cvI o.f3], cvL [cvI o.t1, cvI o.t2, cvI o.t3], cvT o.ky, cvT o.vl, cvI o.n, cvI b]
def opV (o : OP) : CV := opW o (if o.on = true then 1 else 0)

theorem enc_t0 (o : OP) (l : List UInt8) (e : Int) (hon : o.on = true) (hc : CallC P G 12 [op o] [] (.ret (int 0)) []) (hL : RunL P G none 0 (loopAt P 18 0) (encSt0 o 0) (.exit 0) { env := slots 85 [(1, .ptr 0 0), (5, .ptr 1 0)], H := [.box (opc o), .box (enc (ctxV o))] }) (he : CallC P G 30 [val (opW o 1)] [] (.ret (.tup [byt l, int e])) []) (h : True) : CallC P G 18 [op o] [] (AOut.ret (AV.tup [byt l, int e])) [] := by
  have _ := h
  exact callC_of [kc [] (@hc ), kf (Eq.refl false), kc [] (@Go.Ops.list0_c ), kv 17 (show Am.Sub (int (↑(List.length (encs (OP.cx o))) : Int)) (int (↑(List.length (OP.cx o)) : Int)) from (Sub.of_eq (by simp only [Go.Vec.encs_length]))), kl [0, 2, 3, 4, 6, 7, 8, 9, 10, 11, 12, 13, 14, 15, 19, 20, 21, 22, 23, 24, 25, 26, 27, 28, 29, 30, 31, 32, 33, 34, 35, 36, 37, 38, 39, 40, 41, 42, 43, 44, 45, 46, 47, 48, 49, 50, 51, 52, 53, 54, 55, 56, 57, 58, 59, 60, 61, 62, 63, 64, 65, 66, 67, 68, 69, 70, 71, 72, 73, 74, 75, 76, 77, 78, 79, 80, 81, 82, 83, 84] 2 (@hL ), kt hon, kc [] (@Go.Ops.num_c (OP.dv o)), kc [] (@Go.Ops.num_c (OP.sq o)), kc [] (@Go.Ops.num_c (OP.tm o)), kc [] (@Go.Ops.num_c (OP.pk o)), kc [] (@Go.Ops.text_c (OP.pn o)), kc [] (@Go.Ops.list_c (true) ([[int 1, int (OP.pk o), str ByteArray.empty, AV.sl 4 false []], [int 2, int 0, str (OP.pn o), AV.sl 4 false []]])), kc [] (@Go.Ops.num_c (OP.kd o)), kc [] (@Go.Ops.id_c (OP.f1 o) (OP.f2 o) (OP.f3 o)), kc [] (@Go.Ops.id_c (OP.t1 o) (OP.t2 o) (OP.t3 o)), kc [] (@Go.Ops.text_c (OP.ky o)), kc [] (@Go.Ops.text_c (OP.vl o)), kc [] (@Go.Ops.num_c (OP.n o)), kc [] (@Go.Ops.num_c (1)), kc [] (@Go.Ops.list_c (true) ([[int 1, int (OP.dv o), str ByteArray.empty, AV.sl 4 false []], [int 1, int (OP.sq o), str ByteArray.empty, AV.sl 4 false []], [int 1, int (OP.tm o), str ByteArray.empty, AV.sl 4 false []], [int (CV.k (ctxV o)), int (CV.n (ctxV o)), str (CV.s (ctxV o)), AV.sl 4 false (encL (CV.l (ctxV o)))], [int 3, int 0, str ByteArray.empty, AV.sl 4 false [[int 1, int (OP.pk o), str ByteArray.empty, AV.sl 4 false []], [int 2, int 0, str (OP.pn o), AV.sl 4 false []]]], [int 1, int (OP.kd o), str ByteArray.empty, AV.sl 4 false []], [int 3, int 0, str ByteArray.empty, AV.sl 4 false [[int 1, int (OP.f1 o), str ByteArray.empty, AV.sl 4 false []], [int 1, int (OP.f2 o), str ByteArray.empty, AV.sl 4 false []], [int 1, int (OP.f3 o), str ByteArray.empty, AV.sl 4 false []]]], [int 3, int 0, str ByteArray.empty, AV.sl 4 false [[int 1, int (OP.t1 o), str ByteArray.empty, AV.sl 4 false []], [int 1, int (OP.t2 o), str ByteArray.empty, AV.sl 4 false []], [int 1, int (OP.t3 o), str ByteArray.empty, AV.sl 4 false []]]], [int 2, int 0, str (OP.ky o), AV.sl 4 false []], [int 2, int 0, str (OP.vl o), AV.sl 4 false []], [int 1, int (OP.n o), str ByteArray.empty, AV.sl 4 false []], [int 1, int 1, str ByteArray.empty, AV.sl 4 false []]])), kc [] (@he )] (by kernel_rfl)

theorem enc_t1 (o : OP) (l : List UInt8) (e : Int) (hon : o.on = true) (hc : CallC P G 12 [op o] [] (.ret (int 0)) []) (hL : RunL P G none 0 (loopAt P 18 0) (encSt0 o 0) (.exit 0) { env := slots 85 [(1, .ptr 0 0), (5, .ptr 1 0)], H := [.box (opc o), .box (enc (ctxV o)), .gone, .gone] }) (he : CallC P G 30 [val (opW o 1)] [] (.ret (.tup [byt l, int e])) []) (h : True) : CallC P G 18 [op o] [] (AOut.ret (AV.tup [byt l, int e])) [] := by
  have _ := h
  exact callC_of [kc [] (@hc ), kf (Eq.refl false), kc [] (@Go.Ops.list0_c ), kv 17 (show Am.Sub (int (↑(List.length (encs (OP.cx o))) : Int)) (int (↑(List.length (OP.cx o)) : Int)) from (Sub.of_eq (by simp only [Go.Vec.encs_length]))), kl [0, 2, 3, 4, 6, 7, 8, 9, 10, 11, 12, 13, 14, 15, 19, 20, 21, 22, 23, 24, 25, 26, 27, 28, 29, 30, 31, 32, 33, 34, 35, 36, 37, 38, 39, 40, 41, 42, 43, 44, 45, 46, 47, 48, 49, 50, 51, 52, 53, 54, 55, 56, 57, 58, 59, 60, 61, 62, 63, 64, 65, 66, 67, 68, 69, 70, 71, 72, 73, 74, 75, 76, 77, 78, 79, 80, 81, 82, 83, 84] 2 (@hL ), kt hon, kc [] (@Go.Ops.num_c (OP.dv o)), kc [] (@Go.Ops.num_c (OP.sq o)), kc [] (@Go.Ops.num_c (OP.tm o)), kc [] (@Go.Ops.num_c (OP.pk o)), kc [] (@Go.Ops.text_c (OP.pn o)), kc [] (@Go.Ops.list_c (true) ([[int 1, int (OP.pk o), str ByteArray.empty, AV.sl 4 false []], [int 2, int 0, str (OP.pn o), AV.sl 4 false []]])), kc [] (@Go.Ops.num_c (OP.kd o)), kc [] (@Go.Ops.id_c (OP.f1 o) (OP.f2 o) (OP.f3 o)), kc [] (@Go.Ops.id_c (OP.t1 o) (OP.t2 o) (OP.t3 o)), kc [] (@Go.Ops.text_c (OP.ky o)), kc [] (@Go.Ops.text_c (OP.vl o)), kc [] (@Go.Ops.num_c (OP.n o)), kc [] (@Go.Ops.num_c (1)), kc [] (@Go.Ops.list_c (true) ([[int 1, int (OP.dv o), str ByteArray.empty, AV.sl 4 false []], [int 1, int (OP.sq o), str ByteArray.empty, AV.sl 4 false []], [int 1, int (OP.tm o), str ByteArray.empty, AV.sl 4 false []], [int (CV.k (ctxV o)), int (CV.n (ctxV o)), str (CV.s (ctxV o)), AV.sl 4 false (encL (CV.l (ctxV o)))], [int 3, int 0, str ByteArray.empty, AV.sl 4 false [[int 1, int (OP.pk o), str ByteArray.empty, AV.sl 4 false []], [int 2, int 0, str (OP.pn o), AV.sl 4 false []]]], [int 1, int (OP.kd o), str ByteArray.empty, AV.sl 4 false []], [int 3, int 0, str ByteArray.empty, AV.sl 4 false [[int 1, int (OP.f1 o), str ByteArray.empty, AV.sl 4 false []], [int 1, int (OP.f2 o), str ByteArray.empty, AV.sl 4 false []], [int 1, int (OP.f3 o), str ByteArray.empty, AV.sl 4 false []]]], [int 3, int 0, str ByteArray.empty, AV.sl 4 false [[int 1, int (OP.t1 o), str ByteArray.empty, AV.sl 4 false []], [int 1, int (OP.t2 o), str ByteArray.empty, AV.sl 4 false []], [int 1, int (OP.t3 o), str ByteArray.empty, AV.sl 4 false []]]], [int 2, int 0, str (OP.ky o), AV.sl 4 false []], [int 2, int 0, str (OP.vl o), AV.sl 4 false []], [int 1, int (OP.n o), str ByteArray.empty, AV.sl 4 false []], [int 1, int 1, str ByteArray.empty, AV.sl 4 false []]])), kc [] (@he )] (by kernel_rfl)

theorem enc_f0 (o : OP) (l : List UInt8) (e : Int) (hon : o.on = false) (hc : CallC P G 12 [op o] [] (.ret (int 0)) []) (hL : RunL P G none 0 (loopAt P 18 0) (encSt0 o 0) (.exit 0) { env := slots 85 [(1, .ptr 0 0), (5, .ptr 1 0)], H := [.box (opc o), .box (enc (ctxV o))] }) (he : CallC P G 30 [val (opW o 0)] [] (.ret (.tup [byt l, int e])) []) (h : True) : CallC P G 18 [op o] [] (AOut.ret (AV.tup [byt l, int e])) [] := by
  have _ := h
  exact callC_of [kc [] (@hc ), kf (Eq.refl false), kc [] (@Go.Ops.list0_c ), kv 17 (show Am.Sub (int (↑(List.length (encs (OP.cx o))) : Int)) (int (↑(List.length (OP.cx o)) : Int)) from (Sub.of_eq (by simp only [Go.Vec.encs_length]))), kl [0, 2, 3, 4, 6, 7, 8, 9, 10, 11, 12, 13, 14, 15, 19, 20, 21, 22, 23, 24, 25, 26, 27, 28, 29, 30, 31, 32, 33, 34, 35, 36, 37, 38, 39, 40, 41, 42, 43, 44, 45, 46, 47, 48, 49, 50, 51, 52, 53, 54, 55, 56, 57, 58, 59, 60, 61, 62, 63, 64, 65, 66, 67, 68, 69, 70, 71, 72, 73, 74, 75, 76, 77, 78, 79, 80, 81, 82, 83, 84] 2 (@hL ), kf hon, kc [] (@Go.Ops.num_c (OP.dv o)), kc [] (@Go.Ops.num_c (OP.sq o)), kc [] (@Go.Ops.num_c (OP.tm o)), kc [] (@Go.Ops.num_c (OP.pk o)), kc [] (@Go.Ops.text_c (OP.pn o)), kc [] (@Go.Ops.list_c (true) ([[int 1, int (OP.pk o), str ByteArray.empty, AV.sl 4 false []], [int 2, int 0, str (OP.pn o), AV.sl 4 false []]])), kc [] (@Go.Ops.num_c (OP.kd o)), kc [] (@Go.Ops.id_c (OP.f1 o) (OP.f2 o) (OP.f3 o)), kc [] (@Go.Ops.id_c (OP.t1 o) (OP.t2 o) (OP.t3 o)), kc [] (@Go.Ops.text_c (OP.ky o)), kc [] (@Go.Ops.text_c (OP.vl o)), kc [] (@Go.Ops.num_c (OP.n o)), kc [] (@Go.Ops.num_c (0)), kc [] (@Go.Ops.list_c (true) ([[int 1, int (OP.dv o), str ByteArray.empty, AV.sl 4 false []], [int 1, int (OP.sq o), str ByteArray.empty, AV.sl 4 false []], [int 1, int (OP.tm o), str ByteArray.empty, AV.sl 4 false []], [int (CV.k (ctxV o)), int (CV.n (ctxV o)), str (CV.s (ctxV o)), AV.sl 4 false (encL (CV.l (ctxV o)))], [int 3, int 0, str ByteArray.empty, AV.sl 4 false [[int 1, int (OP.pk o), str ByteArray.empty, AV.sl 4 false []], [int 2, int 0, str (OP.pn o), AV.sl 4 false []]]], [int 1, int (OP.kd o), str ByteArray.empty, AV.sl 4 false []], [int 3, int 0, str ByteArray.empty, AV.sl 4 false [[int 1, int (OP.f1 o), str ByteArray.empty, AV.sl 4 false []], [int 1, int (OP.f2 o), str ByteArray.empty, AV.sl 4 false []], [int 1, int (OP.f3 o), str ByteArray.empty, AV.sl 4 false []]]], [int 3, int 0, str ByteArray.empty, AV.sl 4 false [[int 1, int (OP.t1 o), str ByteArray.empty, AV.sl 4 false []], [int 1, int (OP.t2 o), str ByteArray.empty, AV.sl 4 false []], [int 1, int (OP.t3 o), str ByteArray.empty, AV.sl 4 false []]]], [int 2, int 0, str (OP.ky o), AV.sl 4 false []], [int 2, int 0, str (OP.vl o), AV.sl 4 false []], [int 1, int (OP.n o), str ByteArray.empty, AV.sl 4 false []], [int 1, int 0, str ByteArray.empty, AV.sl 4 false []]])), kc [] (@he )] (by kernel_rfl)

theorem enc_f1 (o : OP) (l : List UInt8) (e : Int) (hon : o.on = false) (hc : CallC P G 12 [op o] [] (.ret (int 0)) []) (hL : RunL P G none 0 (loopAt P 18 0) (encSt0 o 0) (.exit 0) { env := slots 85 [(1, .ptr 0 0), (5, .ptr 1 0)], H := [.box (opc o), .box (enc (ctxV o)), .gone, .gone] }) (he : CallC P G 30 [val (opW o 0)] [] (.ret (.tup [byt l, int e])) []) (h : True) : CallC P G 18 [op o] [] (AOut.ret (AV.tup [byt l, int e])) [] := by
  have _ := h
  exact callC_of [kc [] (@hc ), kf (Eq.refl false), kc [] (@Go.Ops.list0_c ), kv 17 (show Am.Sub (int (↑(List.length (encs (OP.cx o))) : Int)) (int (↑(List.length (OP.cx o)) : Int)) from (Sub.of_eq (by simp only [Go.Vec.encs_length]))), kl [0, 2, 3, 4, 6, 7, 8, 9, 10, 11, 12, 13, 14, 15, 19, 20, 21, 22, 23, 24, 25, 26, 27, 28, 29, 30, 31, 32, 33, 34, 35, 36, 37, 38, 39, 40, 41, 42, 43, 44, 45, 46, 47, 48, 49, 50, 51, 52, 53, 54, 55, 56, 57, 58, 59, 60, 61, 62, 63, 64, 65, 66, 67, 68, 69, 70, 71, 72, 73, 74, 75, 76, 77, 78, 79, 80, 81, 82, 83, 84] 2 (@hL ), kf hon, kc [] (@Go.Ops.num_c (OP.dv o)), kc [] (@Go.Ops.num_c (OP.sq o)), kc [] (@Go.Ops.num_c (OP.tm o)), kc [] (@Go.Ops.num_c (OP.pk o)), kc [] (@Go.Ops.text_c (OP.pn o)), kc [] (@Go.Ops.list_c (true) ([[int 1, int (OP.pk o), str ByteArray.empty, AV.sl 4 false []], [int 2, int 0, str (OP.pn o), AV.sl 4 false []]])), kc [] (@Go.Ops.num_c (OP.kd o)), kc [] (@Go.Ops.id_c (OP.f1 o) (OP.f2 o) (OP.f3 o)), kc [] (@Go.Ops.id_c (OP.t1 o) (OP.t2 o) (OP.t3 o)), kc [] (@Go.Ops.text_c (OP.ky o)), kc [] (@Go.Ops.text_c (OP.vl o)), kc [] (@Go.Ops.num_c (OP.n o)), kc [] (@Go.Ops.num_c (0)), kc [] (@Go.Ops.list_c (true) ([[int 1, int (OP.dv o), str ByteArray.empty, AV.sl 4 false []], [int 1, int (OP.sq o), str ByteArray.empty, AV.sl 4 false []], [int 1, int (OP.tm o), str ByteArray.empty, AV.sl 4 false []], [int (CV.k (ctxV o)), int (CV.n (ctxV o)), str (CV.s (ctxV o)), AV.sl 4 false (encL (CV.l (ctxV o)))], [int 3, int 0, str ByteArray.empty, AV.sl 4 false [[int 1, int (OP.pk o), str ByteArray.empty, AV.sl 4 false []], [int 2, int 0, str (OP.pn o), AV.sl 4 false []]]], [int 1, int (OP.kd o), str ByteArray.empty, AV.sl 4 false []], [int 3, int 0, str ByteArray.empty, AV.sl 4 false [[int 1, int (OP.f1 o), str ByteArray.empty, AV.sl 4 false []], [int 1, int (OP.f2 o), str ByteArray.empty, AV.sl 4 false []], [int 1, int (OP.f3 o), str ByteArray.empty, AV.sl 4 false []]]], [int 3, int 0, str ByteArray.empty, AV.sl 4 false [[int 1, int (OP.t1 o), str ByteArray.empty, AV.sl 4 false []], [int 1, int (OP.t2 o), str ByteArray.empty, AV.sl 4 false []], [int 1, int (OP.t3 o), str ByteArray.empty, AV.sl 4 false []]]], [int 2, int 0, str (OP.ky o), AV.sl 4 false []], [int 2, int 0, str (OP.vl o), AV.sl 4 false []], [int 1, int (OP.n o), str ByteArray.empty, AV.sl 4 false []], [int 1, int 0, str ByteArray.empty, AV.sl 4 false []]])), kc [] (@he )] (by kernel_rfl)

theorem enc_x (o : OP) (e : Int) (he : ¬ e = 0) (hc : CallC P G 12 [op o] [] (.ret (int e)) []) (h : True) : CallC P G 18 [op o] [] (AOut.ret (AV.tup [byt [], int e])) [] := by
  have _ := h
  exact CallC.out ((show CallC P G 18 [op o] [] (AOut.ret (AV.tup [nilS, int e])) [] from callC_of [kc [] (@hc ), kt (show (e != 0) = true from (congrArg Bool.not (decide_eq_false (by omega))))] (by kernel_rfl))) (Sub.tups ⟨Sub.nil _, Sub.refl _, trivial⟩)

theorem enc_ok (o : OP) (l : List UInt8) (e : Int) (hl : o.cx.length ≤ 1000000000) (hc : CallC P G 12 [op o] [] (.ret (int 0)) []) (he : CallC P G 30 [val (opV o)] [] (.ret (.tup [byt l, int e])) []) : CallC P G 18 [op o] [] (.ret (.tup [byt l, int e])) [] := by
  unfold opV at he
  cases hon : o.on with
  | true =>
    rw [hon, if_pos rfl] at he
    rcases el_c o hl with ⟨_, h⟩ | h
    · exact enc_t0 o l e hon hc h he trivial
    · exact enc_t1 o l e hon hc h he trivial
  | false =>
    rw [hon, if_neg (by decide)] at he
    rcases el_c o hl with ⟨_, h⟩ | h
    · exact enc_f0 o l e hon hc h he trivial
    · exact enc_f1 o l e hon hc h he trivial

end Go.Ops

/- OPS, 7: the program's reader of values. -/
namespace Go.Ops
set_option maxRecDepth 100000
set_option linter.unusedSimpArgs false
set_option linter.unusedVariables false
open Go Go.Am Go.Proofs Go.Seat Go.Vec Go.Cdc

def hd (l : List CV) : CV := l.headD default
def at_ (l : List CV) (i : Nat) : CV := (l.drop i).headD default
def rb (l : List CV) : List AObj := [.box [.sl 4 false (encL l)]]

theorem next_1 (v : CV) (l : List CV) (h0 : l[0]? = some v) (hp : 0 < l.length) (hl : l.length ≤ 9223372036854775807) (h : (((0 : Int) ≤ (1 : Int) ∧ (1 : Int) ≤ (↑(List.length (encL l)) : Int) ∧ (↑(List.length (encL l)) : Int) ≤ (↑(List.length (encL l)) : Int)) ∧ True)) : CallC P G 73 [AV.ptr 0 0] (rb l) (AOut.ret (val v)) (rb (List.drop 1 l)) := by
  obtain ⟨o2, h⟩ := h
  have _ := h
  exact callC_of [kv 7 (show Am.Sub (int (↑(List.length (encL l)) : Int)) (int (↑(List.length l) : Int)) from (Sub.of_eq (by simp only [Go.Cdc.encL_length]))), kt (show decide ((↑(List.length l) : Int) > (0 : Int)) = true from (decide_eq_true (by omega))), ko (Orc.elem (Cdc.enc v)), kp (show (0 : Int) ≤ (0 : Int) ∧ (encL l)[Int.toNat 0]? = some (Cdc.enc v) from (by rw [Go.Cdc.encL_map]; exact el_nat h0)), kv 20 (show Am.Sub (AV.sl 4 false (List.drop 1 (List.take (Int.toNat (↑(List.length (encL l)) : Int)) (encL l)))) (AV.sl 4 false (encL (List.drop 1 l))) from (Sub.of_eq (by simp only [Go.Cdc.encL_length, Go.Cdc.encL_drop, Go.Cdc.encL_take, List.take_length, Int.toNat_natCast]))), kp o2] (by kernel_rfl)

theorem next_0  (h : True) : CallC P G 73 [AV.ptr 0 0] (rb []) (AOut.ret (val default)) (rb []) := by
  have _ := h
  exact CallC.out ((show CallC P G 73 [AV.ptr 0 0] (rb []) (AOut.ret (AV.agg [int 0, int 0, str (ByteArray.mk #[]), nilS])) [AObj.box [AV.sl 4 false []]] from callC_of [kf (Eq.refl false)] (by kernel_rfl))) (Sub.aggs ⟨Sub.refl _, Sub.refl _, Sub.refl _, Sub.nil _, trivial⟩)

theorem next_c (l : List CV) (hl : l.length ≤ 9223372036854775807) : CallC P G 73 [.ptr 0 0] (rb l) (.ret (val (hd l))) (rb (l.drop 1)) := by
  cases l with
  | nil => exact next_0 trivial
  | cons v l => exact next_1 v (v :: l) rfl (by simp) hl ⟨⟨by decide, by rw [encL_length]; simp only [List.length_cons]; omega, Int.le_refl _⟩, trivial⟩

theorem num0_w (l : List CV) (hl : l.length ≤ 9223372036854775807) (h : True) : CallC P G 49 [AV.ptr 0 0] (rb l) (AOut.ret (int (CV.n (hd l)))) (rb (List.drop 1 l)) := by
  have _ := h
  exact callC_of [kc [0] (@Go.Ops.next_c (l) (by omega))] (by kernel_rfl)

theorem txt0_w (l : List CV) (hl : l.length ≤ 9223372036854775807) (h : True) : CallC P G 50 [AV.ptr 0 0] (rb l) (AOut.ret (str (CV.s (hd l)))) (rb (List.drop 1 l)) := by
  have _ := h
  exact callC_of [kc [0] (@Go.Ops.next_c (l) (by omega))] (by kernel_rfl)

theorem lst0_w (l : List CV) (hl : l.length ≤ 9223372036854775807) (h : True) : CallC P G 51 [AV.ptr 0 0] (rb l) (AOut.ret (AV.ptr 1 0)) [AObj.box [AV.sl 4 false (encL (List.drop 1 l))], AObj.box [AV.sl 4 false (encL (CV.l (hd l)))]] := by
  have _ := h
  exact callC_of [kc [0] (@Go.Ops.next_c (l) (by omega))] (by kernel_rfl)

theorem num0_c (l : List CV) (hl : l.length ≤ 9223372036854775807) : CallC P G 49 [.ptr 0 0] (rb l) (.ret (int (at_ l 0).n)) (rb (l.drop 1)) := num0_w l hl trivial
theorem txt0_c (l : List CV) (hl : l.length ≤ 9223372036854775807) : CallC P G 50 [.ptr 0 0] (rb l) (.ret (str (at_ l 0).s)) (rb (l.drop 1)) := txt0_w l hl trivial
theorem lst0_c (l : List CV) (hl : l.length ≤ 9223372036854775807) : CallC P G 51 [.ptr 0 0] (rb l) (.ret (.ptr 1 0)) [.box [.sl 4 false (encL (l.drop 1))], .box [.sl 4 false (encL (at_ l 0).l)]] := lst0_w l hl trivial
theorem dropl {l : List CV} {i : Nat} (hl : l.length ≤ 9223372036854775807) : (l.drop i).length ≤ 9223372036854775807 := by simp; omega
theorem num_i (l : List CV) (i : Nat) (hl : l.length ≤ 9223372036854775807) : CallC P G 49 [.ptr 0 0] (rb (l.drop i)) (.ret (int (at_ l i).n)) (rb (l.drop (i + 1))) := by
  have := num0_c (l.drop i) (dropl hl)
  rw [List.drop_drop] at this
  exact this
theorem txt_i (l : List CV) (i : Nat) (hl : l.length ≤ 9223372036854775807) : CallC P G 50 [.ptr 0 0] (rb (l.drop i)) (.ret (str (at_ l i).s)) (rb (l.drop (i + 1))) := by
  have := txt0_c (l.drop i) (dropl hl)
  rw [List.drop_drop] at this
  exact this
theorem lst_i (l : List CV) (i : Nat) (hl : l.length ≤ 9223372036854775807) : CallC P G 51 [.ptr 0 0] (rb (l.drop i)) (.ret (.ptr 1 0)) [.box [.sl 4 false (encL (l.drop (i + 1)))], .box [.sl 4 false (encL (at_ l i).l)]] := by
  have := lst0_c (l.drop i) (dropl hl)
  rw [List.drop_drop] at this
  exact this

theorem id_0 (l x : List CV) (hl : l.length ≤ 9223372036854775807) (hx : x.length ≤ 9223372036854775807) (hL : CallC P G 51 [.ptr 0 0] (rb l) (.ret (.ptr 1 0)) [.box [.sl 4 false (encL (l.drop 1))], .box [.sl 4 false (encL x)]]) (h : True) : CallC P G 52 [AV.ptr 0 0] (rb l) (AOut.ret (ida (CV.n (at_ x 0)) (CV.n (at_ x 1)) (CV.n (at_ x 2)))) (rb (List.drop 1 l)) := by
  have _ := h
  exact callC_of [kc [0] (@hL ), kc [2] (@Go.Ops.num0_c (x) (by omega)), kc [2] (@Go.Ops.num_i (x) (1) (by omega)), kc [2] (@Go.Ops.num_i (x) (2) (by omega))] (by kernel_rfl)

theorem id_i (l : List CV) (i : Nat) (hl : l.length ≤ 9223372036854775807) (hx : (at_ l i).l.length ≤ 9223372036854775807) : CallC P G 52 [.ptr 0 0] (rb (l.drop i)) (.ret (ida (at_ (at_ l i).l 0).n (at_ (at_ l i).l 1).n (at_ (at_ l i).l 2).n)) (rb (l.drop (i + 1))) := by
  have h := lst0_c (l.drop i) (dropl hl)
  have e : at_ (l.drop i) 0 = at_ l i := rfl
  rw [e] at h
  have := id_0 (l.drop i) _ (dropl hl) hx h trivial
  rw [List.drop_drop] at this
  exact this

/-! Bytes that are the same -/
theorem beq_w (a b : List UInt8) (h : (decide (ByteArray.mk (List.toArray a) = ByteArray.mk (List.toArray b))) = (decide (a = b))) : CallC P G 53 [byt a, byt b] [] (AOut.ret (Am.bool (decide (a = b)))) [] := by
  have e1 := h
  exact callC_out (Sub.bool_eq e1) [ko (Orc.bytes (ByteArray.mk (List.toArray a))), ko (Orc.bytes (ByteArray.mk (List.toArray b))), kp (show bys a = List.map (fun (c : UInt8) => [AV.lit (Value.int IntKind.u8 (↑(UInt8.toNat c) : Int))]) (Array.toList (Array.mk a)) from (rfl)), kp (show bys b = List.map (fun (c : UInt8) => [AV.lit (Value.int IntKind.u8 (↑(UInt8.toNat c) : Int))]) (Array.toList (Array.mk b)) from (rfl)), kv 9 (show Am.Sub (Am.bool (ByteArray.toList (ByteArray.mk (List.toArray a)) == ByteArray.toList (ByteArray.mk (List.toArray b)))) (Am.bool (decide (ByteArray.mk (List.toArray a) = ByteArray.mk (List.toArray b)))) from (Sub.of_eq (by simp only [Go.Cdc.str_eq])))] (by kernel_rfl)

theorem bEq_c (a b : List UInt8) : CallC P G 53 [byt a, byt b] [] (.ret (bool (decide (a = b)))) [] := beq_w a b (by
  have : (ByteArray.mk a.toArray = ByteArray.mk b.toArray) ↔ a = b := by simp
  simp [this])

end Go.Ops

/- OPS, 10: Compare. -/
namespace Go.Ops
set_option maxRecDepth 100000
set_option linter.unusedSimpArgs false
set_option linter.unusedVariables false
open Go Go.Am Go.Proofs Go.Seat Go.Vec Go.Cdc

theorem cmpX : ExtCmp P 67 := ⟨_, rfl, by kernel_rfl, by kernel_rfl, by kernel_rfl, by kernel_rfl⟩

theorem bcmp_w (a b : List UInt8) (v : Int) (h : (Lib.compareBytes (Array.toList (List.toArray a)) (Array.toList (List.toArray b)) : Int) = (v)) : CallC P G 41 [byt a, byt b] [] (AOut.ret (int v)) [] := by
  have e1 := h
  exact callC_out (Sub.int_eq e1) [ko (Orc.cmpb (ByteArray.mk (List.toArray a)) (ByteArray.mk (List.toArray b))), kp (show ExtCmp P 67 from (Go.Ops.cmpX)), kp (show bys a = byteA (ByteArray.mk (List.toArray a)) from (rfl)), kp (show bys b = byteA (ByteArray.mk (List.toArray b)) from (rfl))] (by kernel_rfl)

theorem isnan_w (x : Int) (h : (x != x) = (false)) : CallC P G 66 [int x] [] (AOut.ret (Am.bool false)) [] := by
  have e1 := h
  exact callC_out (Sub.bool_eq e1) [] (by kernel_rfl)

theorem ccmp_w (x y v : Int) (hx : CallC P G 66 [int x] [] (.ret (bool false)) []) (hy : CallC P G 66 [int y] [] (.ret (bool false)) []) (h : (((x < y) → (-1 : Int) = (v)) ∧ ((¬x < y) → (((x > y) → (1 : Int) = (v)) ∧ ((¬x > y) → (0 : Int) = (v)))))) : CallC P G 40 [int x, int y] [] (AOut.ret (int v)) [] := by
  have hz0 := (@hx )
  have hz1 := (@hy )
  by_cases c1 : (x < y)
  · have h := h.1 c1
    have e1 := h
    exact callC_out (Sub.int_eq e1) [kc [] hz0, kc [] hz1, kf (Eq.refl false), kf (Eq.refl false), kt (decide_eq_true c1)] (by kernel_rfl)
  · have h := h.2 c1
    by_cases c2 : (x > y)
    · have h := h.1 c2
      have e1 := h
      exact callC_out (Sub.int_eq e1) [kc [] hz0, kc [] hz1, kf (Eq.refl false), kf (Eq.refl false), kf (decide_eq_false c1), kt (decide_eq_true c2)] (by kernel_rfl)
    · have h := h.2 c2
      have e1 := h
      exact callC_out (Sub.int_eq e1) [kc [] hz0, kc [] hz1, kf (Eq.refl false), kf (Eq.refl false), kf (decide_eq_false c1), kf (decide_eq_false c2)] (by kernel_rfl)

theorem bcmp_c (a b : List UInt8) : CallC P G 41 [byt a, byt b] [] (.ret (int (Lib.compareBytes a b))) [] := bcmp_w a b _ rfl
def cmpV (x y : Int) : Int := if x < y then -1 else if x > y then 1 else 0
theorem ccmp_c (x y : Int) : CallC P G 40 [int x, int y] [] (.ret (int (cmpV x y))) [] := ccmp_w x y _ (isnan_w x (by simp)) (isnan_w y (by simp)) (by
  unfold cmpV
  grind)

/-! The first that is not 0 -/
def orV : List Int → Int
  | [] => 0
  | x :: t => if x = 0 then orV t else x
def orSt (l : List Int) (k : Nat) : St := { env := slots 18 [(2, int 0), (3, int 0), (6, .sl 1 true (ints l)), (7, int l.length), (8, int k)], H := [] }

theorem or_w (l : List Int) (k : Nat) (hl : l.length ≤ 1000000) (ex : AEx) (r : Int) (h : ((((↑k : Int) < (↑(List.length l) : Int)) → (∃ x2 : Int, (l[k]? = some x2) ∧ (((x2 = (0 : Int)) → RunL P G none 0 (loopAt P 39 0) (St.mk (slots 18 [(2, int 0), (3, int 0), (6, AV.sl 1 true (ints l)), (7, int (↑(List.length l) : Int)), (8, int (↑(k + 1) : Int))]) [] []) ex (St.mk (slots 18 [(2, int r), (3, int 0)]) [] [])) ∧ ((¬x2 = (0 : Int)) → (AEx.ret = ex) ∧ ((x2 : Int) = (r)))))) ∧ ((¬(↑k : Int) < (↑(List.length l) : Int)) → (AEx.exit 0 = ex) ∧ ((0 : Int) = (r))))) : RunL P G none 0 (loopAt P 39 0) (orSt l k) ex (St.mk (slots 18 [(2, int r), (3, int 0)]) [] []) := by
  by_cases c1 : ((↑k : Int) < (↑(List.length l) : Int))
  · have h := h.1 c1
    obtain ⟨x2, o3, h⟩ := h
    have hz0 : (0 : Int) ≤ (↑k : Int) ∧ (ints l)[Int.toNat (↑k : Int)]? = some (enc1 x2) := (el_nat o3)
    by_cases c4 : (x2 = (0 : Int))
    · have h := h.1 c4
      exact loop_next [kt (decide_eq_true c1), ko (Orc.elem (enc1 x2)), kp hz0, kf (show (x2 != 0) = false from (congrArg Bool.not (beq_iff_eq.2 c4))), kv 16 (show Am.Sub (int (IntKind.wrap IntKind.i64 ((↑k : Int) + 1))) (int (↑(k + 1) : Int)) from (Sub.of_wrap (by omega) (by omega) (by omega)))] (others 18 [2, 3, 6, 7, 8]) 0 h (by kernel_rfl)
    · have h := h.2 c4
      obtain ⟨eX, e1⟩ := h
      exact RunL.to ((show RunL P G none 0 (loopAt P 39 0) (orSt l k) AEx.ret (St.mk (slots 18 [(2, int x2), (3, int 0)]) [] []) from loop_exit [kt (decide_eq_true c1), ko (Orc.elem (enc1 x2)), kp hz0, kt (show (x2 != 0) = true from (congrArg Bool.not (beq_eq_false_iff_ne.2 c4)))] (others 18 [2, 3]) 0 (by kernel_rfl))) eX (SubS.slots ⟨rfl, (Sub.int_eq e1), rfl, Sub.refl _, trivial⟩)
  · have h := h.2 c1
    obtain ⟨eX, e1⟩ := h
    exact RunL.to ((show RunL P G none 0 (loopAt P 39 0) (orSt l k) (AEx.exit 0) (St.mk (slots 18 [(2, int 0), (3, int 0)]) [] []) from loop_exit [kf (decide_eq_false c1)] (others 18 [2, 3]) 0 (by kernel_rfl))) eX (SubS.slots ⟨rfl, (Sub.int_eq e1), rfl, Sub.refl _, trivial⟩)

theorem or_loop (l : List Int) (hl : l.length ≤ 1000000) : ∀ (m k : Nat), l.length - k = m → k ≤ l.length → RunL P G none 0 (loopAt P 39 0) (orSt l k) (if orV (l.drop k) = 0 then .exit 0 else .ret) { env := slots 18 [(2, int (orV (l.drop k))), (3, int 0)], H := [] } := by
  intro m
  induction m with
  | zero =>
    intro k hm hk
    have e : l.drop k = [] := List.drop_of_length_le (by omega)
    rw [e]
    exact or_w l k hl _ _ ⟨fun h => absurd h (by omega), fun _ => ⟨rfl, rfl⟩⟩
  | succ m ih =>
    intro k hm hk
    have hlt : k < l.length := by omega
    have e := List.drop_eq_getElem_cons hlt
    refine or_w l k hl _ _ ⟨fun _ => ⟨l[k], List.getElem?_eq_getElem hlt, ⟨fun h0 => ?_, fun h0 => ?_⟩⟩, fun h => absurd hlt (by omega)⟩
    · have : orV (l.drop k) = orV (l.drop (k + 1)) := by rw [e, orV, if_pos h0]
      rw [this]
      exact ih (k + 1) (by omega) (by omega)
    · have : orV (l.drop k) = l[k] := by rw [e, orV, if_neg h0]
      rw [this, if_neg h0]
      exact ⟨rfl, rfl⟩

theorem or_f (l : List Int) (r : Int) (hL : RunL P G none 0 (loopAt P 39 0) (orSt l 0) (if r = 0 then .exit 0 else .ret) { env := slots 18 [(2, int r), (3, int 0)], H := [] }) (h : (((r = (0 : Int)) → (0 : Int) = (r)) ∧ ((¬r = (0 : Int)) → True))) : CallC P G 39 [AV.sl 1 true (ints l)] [] (AOut.ret (int r)) [] := by
  have hz0 : Am.Sub (int (↑(List.length (ints l)) : Int)) (int (↑(List.length l) : Int)) := (Sub.of_eq (by simp only [Go.Vec.ints_length]))
  by_cases c1 : (r = (0 : Int))
  · have h := h.1 c1
    have e1 := h
    exact callC_out (Sub.int_eq e1) [kv 7 hz0, kl [0, 1, 4, 5, 9, 10, 11, 12, 13, 14, 15, 16, 17] 0 (show RunL P G none 0 (loopAt P 39 0) (St.mk (slots 18 [(2, int 0), (3, int 0), (6, AV.sl 1 true (ints l)), (7, int (↑(List.length l) : Int)), (8, int 0)]) [] []) (AEx.exit 0) (St.mk (slots 18 [(2, int r), (3, int 0)]) [] []) from (by have h0 := (@hL ); simp only [if_pos c1] at h0; exact h0))] (by kernel_rfl)
  · have h := h.2 c1
    have _ := h
    exact callC_of [kv 7 hz0, kl [0, 1, 4, 5, 9, 10, 11, 12, 13, 14, 15, 16, 17] 0 (show RunL P G none 0 (loopAt P 39 0) (St.mk (slots 18 [(2, int 0), (3, int 0), (6, AV.sl 1 true (ints l)), (7, int (↑(List.length l) : Int)), (8, int 0)]) [] []) AEx.ret (St.mk (slots 18 [(2, int r), (3, int 0)]) [] []) from (by have h0 := (@hL ); simp only [if_neg c1] at h0; exact h0))] (by kernel_rfl)

theorem or3_c (a b c : Int) : CallC P G 39 [.sl 1 true [[int a], [int b], [int c]]] [] (.ret (int (orV [a, b, c]))) [] :=
  or_f [a, b, c] _ (by have := or_loop [a, b, c] (by simp) 3 0 rfl (by simp); exact this) ⟨fun h => h.symm, fun _ => trivial⟩

/-- What Compare answers, from the encodings. -/
def cmpOV (a b : OP) (x y : List UInt8) : Int :=
  if orV [cmpV a.tm b.tm, cmpV a.dv b.dv, cmpV a.sq b.sq] = 0 then Lib.compareBytes x y else orV [cmpV a.tm b.tm, cmpV a.dv b.dv, cmpV a.sq b.sq]

theorem cmp_w (a b : OP) (x y : List UInt8) (e1 e2 v : Int) (hx : CallC P G 18 [op a] [] (.ret (.tup [byt x, int e1])) []) (hy : CallC P G 18 [op b] [] (.ret (.tup [byt y, int e2])) []) (h : (((orV [cmpV (OP.tm a) (OP.tm b), cmpV (OP.dv a) (OP.dv b), cmpV (OP.sq a) (OP.sq b)] = (0 : Int)) → (Lib.compareBytes x y : Int) = (v)) ∧ ((¬orV [cmpV (OP.tm a) (OP.tm b), cmpV (OP.dv a) (OP.dv b), cmpV (OP.sq a) (OP.sq b)] = (0 : Int)) → (orV [cmpV (OP.tm a) (OP.tm b), cmpV (OP.dv a) (OP.dv b), cmpV (OP.sq a) (OP.sq b)] : Int) = (v)))) : CallC P G 14 [op a, op b] [] (AOut.ret (int v)) [] := by
  have hz0 := (@Go.Ops.ccmp_c (OP.tm a) (OP.tm b))
  have hz1 := (@Go.Ops.ccmp_c (OP.dv a) (OP.dv b))
  have hz2 := (@Go.Ops.ccmp_c (OP.sq a) (OP.sq b))
  have hz3 := (@Go.Ops.or3_c (cmpV (OP.tm a) (OP.tm b)) (cmpV (OP.dv a) (OP.dv b)) (cmpV (OP.sq a) (OP.sq b)))
  by_cases c1 : (orV [cmpV (OP.tm a) (OP.tm b), cmpV (OP.dv a) (OP.dv b), cmpV (OP.sq a) (OP.sq b)] = (0 : Int))
  · have h := h.1 c1
    have e1 := h
    exact callC_out (Sub.int_eq e1) [kc [] hz0, kc [] hz1, kc [] hz2, kc [] hz3, kt (beq_iff_eq.2 c1), kc [] (@hx ), kc [] (@hy ), kc [] (@Go.Ops.bcmp_c (x) (y))] (by kernel_rfl)
  · have h := h.2 c1
    have e1 := h
    exact callC_out (Sub.int_eq e1) [kc [] hz0, kc [] hz1, kc [] hz2, kc [] hz3, kf (beq_eq_false_iff_ne.2 c1)] (by kernel_rfl)

theorem cmp_c (a b : OP) (x y : List UInt8) (e1 e2 : Int) (hx : CallC P G 18 [op a] [] (.ret (.tup [byt x, int e1])) []) (hy : CallC P G 18 [op b] [] (.ret (.tup [byt y, int e2])) []) : CallC P G 14 [op a, op b] [] (.ret (int (cmpOV a b x y))) [] := cmp_w a b x y e1 e2 _ hx hy (by
  unfold cmpOV
  exact ⟨fun h => by rw [if_pos h], fun h => by rw [if_neg h]⟩)

/-! The reference's -/
theorem cmp_eq0 : ∀ x y : List UInt8, Lib.compareBytes x y = 0 ↔ x = y
  | [], [] => by simp [Lib.compareBytes]
  | [], _ :: _ => by simp [Lib.compareBytes]
  | _ :: _, [] => by simp [Lib.compareBytes]
  | a :: xs, b :: ys => by
    have ih := cmp_eq0 xs ys
    simp only [Lib.compareBytes]
    by_cases h1 : a < b
    · simp [h1]
      intro e; subst e
      exact absurd h1 (UInt8.lt_irrefl a)
    · by_cases h2 : b < a
      · simp [h1, h2]
        intro e; subst e
        exact absurd h2 (UInt8.lt_irrefl a)
      · have e : a = b := UInt8.le_antisymm (UInt8.not_lt.1 h2) (UInt8.not_lt.1 h1)
        simp [h1, h2, ih, e]
end Go.Ops

/- CODEC, 1: the readers' bytes. -/
namespace Go.Cdc
set_option maxRecDepth 100000
set_option linter.unusedSimpArgs false
set_option linter.unusedVariables false
open Go Go.Am Go.Proofs Go.Seat

/-! Arithmetic -/
theorem wrap_u64 (n : Nat) : IntKind.wrap .u64 (n : Int) = ((n % 18446744073709551616 : Nat) : Int) := by
  show (let m := (n : Int) % (2 ^ 64 : Int); if (IntKind.u64.signed && m ≥ (2 ^ (64 - 1) : Int)) = true then m - (2 ^ 64 : Int) else m) = _
  simp [IntKind.signed]
theorem wrap_u8 (n : Nat) : IntKind.wrap .u8 (n : Int) = ((n % 256 : Nat) : Int) := by
  show (let m := (n : Int) % (2 ^ 8 : Int); if (IntKind.u8.signed && m ≥ (2 ^ (8 - 1) : Int)) = true then m - (2 ^ 8 : Int) else m) = _
  simp [IntKind.signed]
theorem ofInt_nat (w n : Nat) : (BitVec.ofInt w (n : Int)).toNat = n % 2 ^ w := by simp [BitVec.toNat_ofInt]
theorem wrap64 {n : Nat} (h : n < 18446744073709551616) : IntKind.wrap .u64 (n : Int) = (n : Int) := by rw [wrap_u64, Nat.mod_eq_of_lt h]
theorem wrap8 {n : Nat} (h : n < 256) : IntKind.wrap .u8 (n : Int) = (n : Int) := by rw [wrap_u8, Nat.mod_eq_of_lt h]
/-- What a digit adds, in the machine's words. -/
def num1 (u : Nat) (c : UInt8) (i : Nat) : Int := IntKind.wrap IntKind.u64 (↑(BitVec.toNat (BitVec.ofInt (IntKind.bits IntKind.u64) (↑u : Int) ||| BitVec.ofInt (IntKind.bits IntKind.u64) (IntKind.wrap IntKind.u64 (IntKind.wrap IntKind.u64 (IntKind.wrap IntKind.u8 (↑(BitVec.toNat (BitVec.ofInt (IntKind.bits IntKind.u8) (↑(UInt8.toNat c) : Int) &&& BitVec.ofInt (IntKind.bits IntKind.u8) 127)) : Int)) * 2 ^ min (Int.toNat (7 * (↑i : Int))) (IntKind.bits IntKind.u64))))) : Int)
theorem digit_fits {u c i : Nat} (hu : u < 2 ^ (7 * i)) (hi : i ≤ 9) (hc : i = 9 → c ≤ 1) : u + c % 128 * 2 ^ (7 * i) < 2 ^ (7 * (i + 1)) ∧ u + c % 128 * 2 ^ (7 * i) < 18446744073709551616 := by
  have h1 : c % 128 < 128 := Nat.mod_lt _ (by decide)
  have h2 : 2 ^ (7 * (i + 1)) = 128 * 2 ^ (7 * i) := by rw [Nat.mul_add, Nat.pow_add]; omega
  have h3 : u + c % 128 * 2 ^ (7 * i) < 128 * 2 ^ (7 * i) := by
    have := Nat.mul_le_mul_right (2 ^ (7 * i)) (show c % 128 ≤ 127 by omega)
    omega
  refine ⟨by rw [h2]; exact h3, ?_⟩
  rcases Nat.lt_or_eq_of_le hi with h | rfl
  · have : 2 ^ (7 * (i + 1)) ≤ 2 ^ 63 := Nat.pow_le_pow_right (by decide) (by omega)
    rw [h2] at this
    have : (2 : Nat) ^ 63 < 18446744073709551616 := by decide
    omega
  · have := hc rfl
    have h5 : (2 : Nat) ^ (7 * 9) = 9223372036854775808 := by decide
    rw [h5] at hu ⊢
    have : c % 128 ≤ 1 := by omega
    omega
theorem num1_eq {u : Nat} {c : UInt8} {i : Nat} (hu : u < 2 ^ (7 * i)) (hi : i ≤ 9) (hc : i = 9 → c.toNat ≤ 1) : num1 u c i = ((u + c.toNat % 128 * 2 ^ (7 * i) : Nat) : Int) := by
  have hfit := (digit_fits hu hi hc).2
  have hc8 : c.toNat < 256 := c.toNat_lt
  have e1 : (BitVec.ofInt (IntKind.bits IntKind.u8) (↑c.toNat : Int) &&& BitVec.ofInt (IntKind.bits IntKind.u8) 127).toNat = c.toNat % 128 := by
    have : (127 : Int) = ((127 : Nat) : Int) := rfl
    rw [BitVec.toNat_and, this, ofInt_nat, ofInt_nat]
    show (c.toNat % 2 ^ 8) &&& (127 % 2 ^ 8) = _
    rw [Nat.mod_eq_of_lt (show c.toNat < 2 ^ 8 by omega), Nat.mod_eq_of_lt (show 127 < 2 ^ 8 by decide)]
    exact Nat.and_two_pow_sub_one_eq_mod c.toNat 7
  have e2 : (7 * (i : Int)).toNat = 7 * i := by omega
  have e3 : min (7 * i) (IntKind.bits IntKind.u64) = 7 * i := by show min (7 * i) 64 = _; omega
  unfold num1
  rw [e1, e2, e3, wrap8 (show c.toNat % 128 < 256 by omega), wrap64 (show c.toNat % 128 < 18446744073709551616 by omega)]
  have e4 : ((c.toNat % 128 : Nat) : Int) * 2 ^ (7 * i) = ((c.toNat % 128 * 2 ^ (7 * i) : Nat) : Int) := by push_cast; rfl
  rw [e4, wrap64 (show c.toNat % 128 * 2 ^ (7 * i) < 18446744073709551616 by omega), BitVec.toNat_or, ofInt_nat, ofInt_nat]
  have e5 : ∀ n, n < 18446744073709551616 → n % 2 ^ IntKind.bits IntKind.u64 = n := fun n hn => Nat.mod_eq_of_lt hn
  rw [e5 _ (by omega), e5 _ (by omega)]
  have e6 : u ||| c.toNat % 128 * 2 ^ (7 * i) = u + c.toNat % 128 * 2 ^ (7 * i) := by
    have := Nat.two_pow_add_eq_or_of_lt hu (c.toNat % 128)
    rw [Nat.or_comm, Nat.mul_comm, ← this]
    omega
  rw [e6, wrap64 hfit]

theorem want_w (o : AObj) (b : Bool) (out : AOut) (h : ((((b) = true) → AOut.ret (AV.tup []) = out) ∧ (((b) = false) → AOut.pan (AV.ifc 33 (int 10)) = out))) : CallC P G 58 [AV.ptr 0 0, Am.bool b] [o] out [o] := by
  rcases Bool.eq_false_or_eq_true ((b)) with c1 | c1
  · have h := h.1 c1
    have e1 := h
    exact e1 ▸ ((show CallC P G 58 [AV.ptr 0 0, Am.bool b] [o] (AOut.ret (AV.tup [])) [o] from callC_of [kf (show (!b) = false from (congrArg Bool.not (c1)))] (by kernel_rfl)))
  · have h := h.2 c1
    have e1 := h
    exact e1 ▸ ((show CallC P G 58 [AV.ptr 0 0, Am.bool b] [o] (AOut.pan (AV.ifc 33 (int 10))) [o] from callC_of [kt (show (!b) = true from (congrArg Bool.not (c1)))] (by kernel_rfl)))

theorem want_c (o : AObj) (b : Bool) : CallC P G 58 [.ptr 0 0, bool b] [o] (if b = true then .ret (.tup []) else .pan badErr) [o] :=
  want_w o b _ ⟨fun h => by rw [if_pos h], fun h => by rw [if_neg (by simp [h])]; rfl⟩

theorem takeX_t (xs : List (List AV)) (n : Nat) (h : n ≤ xs.length) (hl : xs.length ≤ 1000000000) (h : True) : CallC P G 77 [AV.ptr 0 0, int (↑n : Int)] [AObj.box [AV.sl 1 false xs]] (AOut.ret (AV.sl 1 false (List.take n xs))) [AObj.box [AV.sl 1 false (List.drop n xs)]] := by
  have _ := h
  exact callC_of [kc [0] (show CallC P G 58 [AV.ptr 0 0, Am.bool (decide ((↑n : Int) ≤ (↑(List.length xs) : Int)))] [AObj.box [AV.sl 1 false xs]] (AOut.ret (AV.tup [])) [AObj.box [AV.sl 1 false xs]] from (by have h0 := (@Go.Cdc.want_c (AObj.box [AV.sl 1 false xs]) (decide ((↑n : Int) ≤ (↑(List.length xs) : Int)))); simp only [if_pos (show decide ((↑n : Int) ≤ (↑(List.length xs) : Int)) = true from decide_eq_true (by omega))] at h0; exact h0)), kp (show (0 : Int) ≤ (0 : Int) ∧ (0 : Int) ≤ (↑n : Int) ∧ (↑n : Int) ≤ (↑n : Int) ∧ (↑n : Int) ≤ (↑(List.length xs) : Int) from (by omega)), kv 28 (show Am.Sub (AV.sl 1 false (List.drop (Int.toNat (↑n : Int)) (List.take (Int.toNat (↑(List.length xs) : Int)) xs))) (AV.sl 1 false (List.drop n xs)) from (Sub.of_eq (by simp only [Int.toNat_natCast, List.take_length]))), kp (show (0 : Int) ≤ (↑n : Int) ∧ (↑n : Int) ≤ (↑(List.length xs) : Int) ∧ (↑(List.length xs) : Int) ≤ (↑(List.length xs) : Int) from (by omega))] (by kernel_rfl)

theorem takeX_f (xs : List (List AV)) (n : Nat) (h : xs.length < n) (hl : xs.length ≤ 1000000000) (h : True) : CallC P G 77 [AV.ptr 0 0, int (↑n : Int)] [AObj.box [AV.sl 1 false xs]] (AOut.pan badErr) [AObj.box [AV.sl 1 false xs]] := by
  have _ := h
  exact callC_of [kc [0] (show CallC P G 58 [AV.ptr 0 0, Am.bool (decide ((↑n : Int) ≤ (↑(List.length xs) : Int)))] [AObj.box [AV.sl 1 false xs]] (AOut.pan (AV.ifc 33 (int 10))) [AObj.box [AV.sl 1 false xs]] from (by have h0 := (@Go.Cdc.want_c (AObj.box [AV.sl 1 false xs]) (decide ((↑n : Int) ≤ (↑(List.length xs) : Int)))); simp only [if_neg (show ¬ (decide ((↑n : Int) ≤ (↑(List.length xs) : Int)) = true) from Bool.eq_false_iff.1 (decide_eq_false (by omega)))] at h0; exact h0))] (by kernel_rfl)

theorem take_t (l : List UInt8) (n : Nat) (h : n ≤ l.length) (hl : l.length ≤ 1000000000) : CallC P G 77 [.ptr 0 0, int n] (rdr l) (.ret (byt (l.take n))) (rdr (l.drop n)) := by
  have := takeX_t (bys l) n (by rw [bys_length]; exact h) (by rw [bys_length]; exact hl) trivial
  rw [bys_take, bys_drop] at this
  exact this
theorem take_f (l : List UInt8) (n : Nat) (h : l.length < n) (hl : l.length ≤ 1000000000) : CallC P G 77 [.ptr 0 0, int n] (rdr l) (.pan badErr) (rdr l) :=
  takeX_f (bys l) n (by rw [bys_length]; exact h) (by rw [bys_length]; exact hl) trivial
theorem one_any (x : AV) (r : List UInt8) (hl : r.length ≤ 999999999) : CallC P G 77 [.ptr 0 0, int 1] [.box [.sl 1 false ([x] :: bys r)]] (.ret (.sl 1 false [[x]])) (rdr r) :=
  takeX_t ([x] :: bys r) 1 (by simp) (by simp [bys_length]; omega) trivial

def rdrC (c : UInt8) (r : List UInt8) : List AObj := [.box [.sl 1 false ([u8 c] :: bys r)]]
theorem one_nil : CallC P G 77 [.ptr 0 0, int 1] (rdr []) (.pan badErr) (rdr []) := take_f [] 1 (by simp) (by simp)
theorem one_cons (c : UInt8) (r : List UInt8) (hl : r.length ≤ 999999999) : CallC P G 77 [.ptr 0 0, int 1] (rdrC c r) (.ret (.sl 1 false [[u8 c]])) (rdr r) := take_t (c :: r) 1 (by simp) (by simp; omega)

/-- The program's reader within a numeral. -/
def numSt (l : List UInt8) (u i : Nat) : St := { env := slots 38 [(0, .ptr 0 0), (2, u64 u), (3, int i)], H := rdr l }

theorem num_nil (u i : Nat) (ex : AEx) (h : AEx.pan (AV.ifc 33 (int 10)) = ex) : RunL P G none 1 (loopAt P 79 0) (numSt [] u i) ex { env := slots 38 [(2, u64 u)], H := rdr [] } := by
  have eX := h
  exact RunL.to ((show RunL P G none 1 (loopAt P 79 0) (numSt [] u i) (AEx.pan (AV.ifc 33 (int 10))) { env := slots 38 [(2, AV.lit (Value.int IntKind.u64 (↑u : Int)))], H := [AObj.box [AV.sl 1 false []]] } from loop_exit [kc [0] (@Go.Cdc.one_nil )] (others 38 [2]) 1 (by kernel_rfl))) eX (SubS.of_eq rfl)

def numSt1 (c : UInt8) (r : List UInt8) (u i : Nat) : St := { env := slots 38 [(0, .ptr 0 0), (2, u64 u), (3, int i)], H := rdrC c r }

theorem num_cons (c : UInt8) (r : List UInt8) (hl : r.length ≤ 999999999) (u i : Nat) (hi : i ≤ 9) (ex : AEx) (v : Int) (o : AObj) (h : ((((↑i : Int) = (0 : Int)) → ((((↑(UInt8.toNat c) : Int) < (128 : Int)) → (AEx.ret = ex) ∧ ((num1 u c i : Int) = (v)) ∧ ([AObj.box [AV.sl 1 false (bys r)]] = [o])) ∧ ((¬(↑(UInt8.toNat c) : Int) < (128 : Int)) → RunL P G none 1 (loopAt P 79 0) { env := slots 38 [(0, AV.ptr 0 0), (2, AV.lit (Value.int IntKind.u64 (num1 u c i))), (3, int (↑(i + 1) : Int))], H := [AObj.box [AV.sl 1 false (bys r)]] } ex { env := slots 38 [(2, AV.lit (Value.int IntKind.u64 v))], H := [o] }))) ∧ ((¬(↑i : Int) = (0 : Int)) → ((((↑(UInt8.toNat c) : Int) = (0 : Int)) → (AEx.pan (AV.ifc 33 (int 10)) = ex) ∧ (((↑u : Int) : Int) = (v)) ∧ ([AObj.box [AV.sl 1 false (bys r)]] = [o])) ∧ ((¬(↑(UInt8.toNat c) : Int) = (0 : Int)) → ((((↑i : Int) < (9 : Int)) → ((((↑(UInt8.toNat c) : Int) < (128 : Int)) → (AEx.ret = ex) ∧ ((num1 u c i : Int) = (v)) ∧ ([AObj.box [AV.sl 1 false (bys r)]] = [o])) ∧ ((¬(↑(UInt8.toNat c) : Int) < (128 : Int)) → RunL P G none 1 (loopAt P 79 0) { env := slots 38 [(0, AV.ptr 0 0), (2, AV.lit (Value.int IntKind.u64 (num1 u c i))), (3, int (↑(i + 1) : Int))], H := [AObj.box [AV.sl 1 false (bys r)]] } ex { env := slots 38 [(2, AV.lit (Value.int IntKind.u64 v))], H := [o] }))) ∧ ((¬(↑i : Int) < (9 : Int)) → ((((↑(UInt8.toNat c) : Int) ≤ (1 : Int)) → (AEx.ret = ex) ∧ ((num1 u c i : Int) = (v)) ∧ ([AObj.box [AV.sl 1 false (bys r)]] = [o])) ∧ ((¬(↑(UInt8.toNat c) : Int) ≤ (1 : Int)) → (AEx.pan (AV.ifc 33 (int 10)) = ex) ∧ (((↑u : Int) : Int) = (v)) ∧ ([AObj.box [AV.sl 1 false (bys r)]] = [o])))))))))) : RunL P G none 1 (loopAt P 79 0) (numSt1 c r u i) ex { env := slots 38 [(2, AV.lit (Value.int IntKind.u64 v))], H := [o] } := by
  have hz0 := (@Go.Cdc.one_cons (c) (r) (by omega))
  have hz1 : (0 : Int) ≤ (0 : Int) ∧ [[u8 c]][Int.toNat 0]? = some [AV.lit (Value.int IntKind.u8 (↑(UInt8.toNat c) : Int))] := (⟨by decide, rfl⟩)
  by_cases c1 : ((↑i : Int) = (0 : Int))
  · have h := h.1 c1
    have hz2 : decide ((↑i : Int) < (9 : Int)) = true := (decide_eq_true (by omega))
    have hz3 : CallC P G 58 [AV.ptr 0 0, Am.bool true] [AObj.box [AV.sl 1 false (bys r)]] (AOut.ret (AV.tup [])) [AObj.box [AV.sl 1 false (bys r)]] := (by have h0 := (@Go.Cdc.want_c (AObj.box [AV.sl 1 false (bys r)]) (true)); simp only [if_pos (show true = true from rfl)] at h0; exact h0)
    have hz4 : Am.Sub (int (IntKind.wrap IntKind.i64 (7 * (↑i : Int)))) (int (7 * (↑i : Int))) := (Sub.of_wrap (by omega) (by omega) rfl)
    have hz5 : (0 : Int) ≤ 7 * (↑i : Int) := (by omega)
    by_cases c3 : ((↑(UInt8.toNat c) : Int) < (128 : Int))
    · have h := h.1 c3
      obtain ⟨eX, e1, eH⟩ := h
      exact RunL.to ((show RunL P G none 1 (loopAt P 79 0) (numSt1 c r u i) AEx.ret { env := slots 38 [(2, AV.lit (Value.int IntKind.u64 (num1 u c i)))], H := [AObj.box [AV.sl 1 false (bys r)]] } from loop_exit [kc [0] hz0, ko (Orc.elem [AV.lit (Value.int IntKind.u8 (↑(UInt8.toNat c) : Int))]), kp hz1, kt (beq_iff_eq.2 c1), kt (Eq.refl true), kt hz2, kc [0] hz3, kv 32 hz4, kp hz5, kt (decide_eq_true c3)] (others 38 [2]) 1 (by kernel_rfl))) eX (SubS.slotsH ⟨rfl, (Sub.int_eq e1), trivial⟩ eH)
    · have h := h.2 c3
      exact loop_next [kc [0] hz0, ko (Orc.elem [AV.lit (Value.int IntKind.u8 (↑(UInt8.toNat c) : Int))]), kp hz1, kt (beq_iff_eq.2 c1), kt (Eq.refl true), kt hz2, kc [0] hz3, kv 32 hz4, kp hz5, kf (decide_eq_false c3), kv 6 (show Am.Sub (int (IntKind.wrap IntKind.i64 ((↑i : Int) + 1))) (int (↑(i + 1) : Int)) from (Sub.of_wrap (by omega) (by omega) (by omega)))] (others 38 [0, 2, 3]) 1 h (by kernel_rfl)
  · have h := h.2 c1
    have hz3 : CallC P G 58 [AV.ptr 0 0, Am.bool true] [AObj.box [AV.sl 1 false (bys r)]] (AOut.ret (AV.tup [])) [AObj.box [AV.sl 1 false (bys r)]] := (by have h0 := (@Go.Cdc.want_c (AObj.box [AV.sl 1 false (bys r)]) (true)); simp only [if_pos (show true = true from rfl)] at h0; exact h0)
    have hz4 : Am.Sub (int (IntKind.wrap IntKind.i64 (7 * (↑i : Int)))) (int (7 * (↑i : Int))) := (Sub.of_wrap (by omega) (by omega) rfl)
    have hz5 : (0 : Int) ≤ 7 * (↑i : Int) := (by omega)
    by_cases c4 : ((↑(UInt8.toNat c) : Int) = (0 : Int))
    · have h := h.1 c4
      obtain ⟨eX, e1, eH⟩ := h
      exact RunL.to ((show RunL P G none 1 (loopAt P 79 0) (numSt1 c r u i) (AEx.pan (AV.ifc 33 (int 10))) { env := slots 38 [(2, AV.lit (Value.int IntKind.u64 (↑u : Int)))], H := [AObj.box [AV.sl 1 false (bys r)]] } from loop_exit [kc [0] hz0, ko (Orc.elem [AV.lit (Value.int IntKind.u8 (↑(UInt8.toNat c) : Int))]), kp hz1, kf (beq_eq_false_iff_ne.2 c1), kf (show ((↑(UInt8.toNat c) : Int) != 0) = false from (congrArg Bool.not (beq_iff_eq.2 c4))), kc [0] (show CallC P G 58 [AV.ptr 0 0, Am.bool false] [AObj.box [AV.sl 1 false (bys r)]] (AOut.pan (AV.ifc 33 (int 10))) [AObj.box [AV.sl 1 false (bys r)]] from (by have h0 := (@Go.Cdc.want_c (AObj.box [AV.sl 1 false (bys r)]) (false)); simp only [if_neg (show ¬ (false = true) from Bool.eq_false_iff.1 (rfl))] at h0; exact h0))] (others 38 [2]) 1 (by kernel_rfl))) eX (SubS.slotsH ⟨rfl, (Sub.int_eq e1), trivial⟩ eH)
    · have h := h.2 c4
      have hz9 : ((↑(UInt8.toNat c) : Int) != 0) = true := (congrArg Bool.not (beq_eq_false_iff_ne.2 c4))
      by_cases c5 : ((↑i : Int) < (9 : Int))
      · have h := h.1 c5
        by_cases c6 : ((↑(UInt8.toNat c) : Int) < (128 : Int))
        · have h := h.1 c6
          obtain ⟨eX, e1, eH⟩ := h
          exact RunL.to ((show RunL P G none 1 (loopAt P 79 0) (numSt1 c r u i) AEx.ret { env := slots 38 [(2, AV.lit (Value.int IntKind.u64 (num1 u c i)))], H := [AObj.box [AV.sl 1 false (bys r)]] } from loop_exit [kc [0] hz0, ko (Orc.elem [AV.lit (Value.int IntKind.u8 (↑(UInt8.toNat c) : Int))]), kp hz1, kf (beq_eq_false_iff_ne.2 c1), kt hz9, kt (decide_eq_true c5), kc [0] hz3, kv 32 hz4, kp hz5, kt (decide_eq_true c6)] (others 38 [2]) 1 (by kernel_rfl))) eX (SubS.slotsH ⟨rfl, (Sub.int_eq e1), trivial⟩ eH)
        · have h := h.2 c6
          exact loop_next [kc [0] hz0, ko (Orc.elem [AV.lit (Value.int IntKind.u8 (↑(UInt8.toNat c) : Int))]), kp hz1, kf (beq_eq_false_iff_ne.2 c1), kt hz9, kt (decide_eq_true c5), kc [0] hz3, kv 32 hz4, kp hz5, kf (decide_eq_false c6), kv 6 (show Am.Sub (int (IntKind.wrap IntKind.i64 ((↑i : Int) + 1))) (int (↑(i + 1) : Int)) from (Sub.of_wrap (by omega) (by omega) (by omega)))] (others 38 [0, 2, 3]) 1 h (by kernel_rfl)
      · have h := h.2 c5
        by_cases c7 : ((↑(UInt8.toNat c) : Int) ≤ (1 : Int))
        · have h := h.1 c7
          obtain ⟨eX, e1, eH⟩ := h
          exact RunL.to ((show RunL P G none 1 (loopAt P 79 0) (numSt1 c r u i) AEx.ret { env := slots 38 [(2, AV.lit (Value.int IntKind.u64 (num1 u c i)))], H := [AObj.box [AV.sl 1 false (bys r)]] } from loop_exit [kc [0] hz0, ko (Orc.elem [AV.lit (Value.int IntKind.u8 (↑(UInt8.toNat c) : Int))]), kp hz1, kf (beq_eq_false_iff_ne.2 c1), kt hz9, kf (decide_eq_false c5), kc [0] (show CallC P G 58 [AV.ptr 0 0, Am.bool (decide ((↑(UInt8.toNat c) : Int) ≤ (1 : Int)))] [AObj.box [AV.sl 1 false (bys r)]] (AOut.ret (AV.tup [])) [AObj.box [AV.sl 1 false (bys r)]] from (by have h0 := (@Go.Cdc.want_c (AObj.box [AV.sl 1 false (bys r)]) (decide ((↑(UInt8.toNat c) : Int) ≤ (1 : Int)))); simp only [if_pos (show decide ((↑(UInt8.toNat c) : Int) ≤ (1 : Int)) = true from decide_eq_true c7)] at h0; exact h0)), kv 32 hz4, kp hz5, kt (show decide ((↑(UInt8.toNat c) : Int) < (128 : Int)) = true from (decide_eq_true (by omega)))] (others 38 [2]) 1 (by kernel_rfl))) eX (SubS.slotsH ⟨rfl, (Sub.int_eq e1), trivial⟩ eH)
        · have h := h.2 c7
          obtain ⟨eX, e1, eH⟩ := h
          exact RunL.to ((show RunL P G none 1 (loopAt P 79 0) (numSt1 c r u i) (AEx.pan (AV.ifc 33 (int 10))) { env := slots 38 [(2, AV.lit (Value.int IntKind.u64 (↑u : Int)))], H := [AObj.box [AV.sl 1 false (bys r)]] } from loop_exit [kc [0] hz0, ko (Orc.elem [AV.lit (Value.int IntKind.u8 (↑(UInt8.toNat c) : Int))]), kp hz1, kf (beq_eq_false_iff_ne.2 c1), kt hz9, kf (decide_eq_false c5), kc [0] (show CallC P G 58 [AV.ptr 0 0, Am.bool (decide ((↑(UInt8.toNat c) : Int) ≤ (1 : Int)))] [AObj.box [AV.sl 1 false (bys r)]] (AOut.pan (AV.ifc 33 (int 10))) [AObj.box [AV.sl 1 false (bys r)]] from (by have h0 := (@Go.Cdc.want_c (AObj.box [AV.sl 1 false (bys r)]) (decide ((↑(UInt8.toNat c) : Int) ≤ (1 : Int)))); simp only [if_neg (show ¬ (decide ((↑(UInt8.toNat c) : Int) ≤ (1 : Int)) = true) from Bool.eq_false_iff.1 (decide_eq_false c7))] at h0; exact h0))] (others 38 [2]) 1 (by kernel_rfl))) eX (SubS.slotsH ⟨rfl, (Sub.int_eq e1), trivial⟩ eH)

/-- A numeral: whether it is one, its number, what remains. -/
def numF : List UInt8 → Nat → Nat → Bool × Nat × List UInt8
  | [], u, _ => (false, u, [])
  | c :: r, u, i => if (i ≠ 0 ∧ c.toNat = 0) ∨ (9 ≤ i ∧ 1 < c.toNat) then (false, u, r)
    else if c.toNat < 128 then (true, u + c.toNat % 128 * 2 ^ (7 * i), r) else numF r (u + c.toNat % 128 * 2 ^ (7 * i)) (i + 1)

theorem num_loop : ∀ (l : List UInt8) (u i : Nat), l.length ≤ 1000000000 → u < 2 ^ (7 * i) → i ≤ 9 →
    RunL P G none 1 (loopAt P 79 0) (numSt l u i) (if (numF l u i).1 = true then .ret else .pan badErr) { env := slots 38 [(2, u64 (numF l u i).2.1)], H := rdr (numF l u i).2.2 }
  | [], u, i, _, _, _ => num_nil u i _ rfl
  | c :: r, u, i, hl, hu, hi => by
    have hl' : r.length ≤ 999999999 := by simp at hl; omega
    have hc8 : c.toNat < 256 := c.toNat_lt
    have go : (i = 9 → c.toNat ≤ 1) → ¬ (c.toNat < 128) → ¬ (i ≠ 0 ∧ c.toNat = 0) → RunL P G none 1 (loopAt P 79 0) { env := slots 38 [(0, AV.ptr 0 0), (2, AV.lit (Value.int IntKind.u64 (num1 u c i))), (3, int (↑(i + 1) : Int))], H := [AObj.box [AV.sl 1 false (bys r)]] }
        (if (numF (c :: r) u i).1 = true then .ret else .pan badErr) { env := slots 38 [(2, u64 (numF (c :: r) u i).2.1)], H := rdr (numF (c :: r) u i).2.2 } := fun h9 hc h0 => by
      have hi' : i ≤ 8 := by
        rcases Nat.lt_or_eq_of_le hi with h | h
        · omega
        · have := h9 h; omega
      rw [num1_eq hu hi h9]
      have e : numF (c :: r) u i = numF r (u + c.toNat % 128 * 2 ^ (7 * i)) (i + 1) := by
        simp only [numF]
        rw [if_neg (by omega), if_neg hc]
      rw [e]
      exact num_loop r _ (i + 1) (by omega) (digit_fits hu hi h9).1 (by omega)
    have fin : (i = 9 → c.toNat ≤ 1) → c.toNat < 128 → ¬ (i ≠ 0 ∧ c.toNat = 0) → numF (c :: r) u i = (true, u + c.toNat % 128 * 2 ^ (7 * i), r) := fun h9 hc h0 => by
      simp only [numF]
      rw [if_neg (by omega), if_pos hc]
    have bad : (i ≠ 0 ∧ c.toNat = 0) ∨ (9 ≤ i ∧ 1 < c.toNat) → numF (c :: r) u i = (false, u, r) := fun h => by
      simp only [numF]
      rw [if_pos h]
    refine num_cons c r hl' u i hi _ _ _ ⟨fun h0 => ⟨fun hc => ?_, fun hc => go (by omega) (by omega) (by omega)⟩, fun h0 => ⟨fun hz => ?_, fun hz => ⟨fun h9 => ⟨fun hc => ?_, fun hc => go (by omega) (by omega) (by omega)⟩, fun h9 => ⟨fun h1 => ?_, fun h1 => ?_⟩⟩⟩⟩
    · rw [fin (by omega) (by omega) (by omega)]; exact ⟨rfl, num1_eq hu hi (by omega), rfl⟩
    · rw [bad (.inl (by omega))]; exact ⟨rfl, rfl, rfl⟩
    · rw [fin (by omega) (by omega) (by omega)]; exact ⟨rfl, num1_eq hu hi (by omega), rfl⟩
    · rw [fin (by omega) (by omega) (by omega)]; exact ⟨rfl, num1_eq hu hi (by omega), rfl⟩
    · rw [bad (.inr (by omega))]; exact ⟨rfl, rfl, rfl⟩

def numOk (l : List UInt8) : Bool := (numF l 0 0).1
def numU (l : List UInt8) : Nat := (numF l 0 0).2.1
def numR (l : List UInt8) : List UInt8 := (numF l 0 0).2.2
theorem num_l (l : List UInt8) (hl : l.length ≤ 1000000000) : RunL P G none 1 (loopAt P 79 0) (numSt l 0 0) (if numOk l = true then .ret else .pan badErr) { env := slots 38 [(2, u64 (numU l))], H := rdr (numR l) } :=
  num_loop l 0 0 hl (by simp) (by omega)

theorem number_w (l : List UInt8) (hl : l.length ≤ 1000000000) (out : AOut) (h : (((numOk l = true) → AOut.ret (AV.lit (Value.int IntKind.u64 (↑(numU l) : Int))) = out) ∧ ((¬numOk l = true) → AOut.pan (AV.ifc 33 (int 10)) = out))) : CallC P G 79 [AV.ptr 0 0] (rdr l) out (rdr (numR l)) := by
  by_cases c1 : (numOk l = true)
  · have h := h.1 c1
    have e1 := h
    exact e1 ▸ ((show CallC P G 79 [AV.ptr 0 0] (rdr l) (AOut.ret (AV.lit (Value.int IntKind.u64 (↑(numU l) : Int)))) [AObj.box [AV.sl 1 false (bys (numR l))]] from callC_of [kl [1, 4, 5, 6, 7, 8, 9, 10, 11, 12, 13, 14, 15, 16, 17, 18, 19, 20, 21, 22, 23, 24, 25, 26, 27, 28, 29, 30, 31, 32, 33, 34, 35, 36, 37] 1 (show RunL P G none 1 (loopAt P 79 0) { env := slots 38 [(0, AV.ptr 0 0), (2, AV.lit (Value.int IntKind.u64 0)), (3, int 0)], H := [AObj.box [AV.sl 1 false (bys l)]] } AEx.ret { env := slots 38 [(2, AV.lit (Value.int IntKind.u64 (↑(numU l) : Int)))], H := [AObj.box [AV.sl 1 false (bys (numR l))]] } from (by have h0 := (@Go.Cdc.num_l (l) (by omega)); simp only [if_pos c1] at h0; exact h0))] (by kernel_rfl)))
  · have h := h.2 c1
    have e1 := h
    exact e1 ▸ ((show CallC P G 79 [AV.ptr 0 0] (rdr l) (AOut.pan (AV.ifc 33 (int 10))) [AObj.box [AV.sl 1 false (bys (numR l))]] from callC_of [kl [1, 4, 5, 6, 7, 8, 9, 10, 11, 12, 13, 14, 15, 16, 17, 18, 19, 20, 21, 22, 23, 24, 25, 26, 27, 28, 29, 30, 31, 32, 33, 34, 35, 36, 37] 1 (show RunL P G none 1 (loopAt P 79 0) { env := slots 38 [(0, AV.ptr 0 0), (2, AV.lit (Value.int IntKind.u64 0)), (3, int 0)], H := [AObj.box [AV.sl 1 false (bys l)]] } (AEx.pan (AV.ifc 33 (int 10))) { env := slots 38 [(2, AV.lit (Value.int IntKind.u64 (↑(numU l) : Int)))], H := [AObj.box [AV.sl 1 false (bys (numR l))]] } from (by have h0 := (@Go.Cdc.num_l (l) (by omega)); simp only [if_neg c1] at h0; exact h0))] (by kernel_rfl)))

theorem number_c (l : List UInt8) (hl : l.length ≤ 1000000000) : CallC P G 79 [.ptr 0 0] (rdr l) (if numOk l = true then .ret (u64 (numU l)) else .pan badErr) (rdr (numR l)) :=
  number_w l hl _ ⟨fun h => by rw [if_pos h], fun h => by rw [if_neg h]; rfl⟩

end Go.Cdc

/- CODEC, 6: numerals that are written. -/
namespace Go.Cdc
set_option maxRecDepth 100000
set_option linter.unusedSimpArgs false
set_option linter.unusedVariables false
open Go Go.Am Go.Proofs Go.Seat

theorem wrap_u64_int (n : Int) : IntKind.wrap .u64 n = n % 18446744073709551616 := by
  show (let m := n % (2 ^ 64 : Int); if (IntKind.u64.signed && m ≥ (2 ^ (64 - 1) : Int)) = true then m - (2 ^ 64 : Int) else m) = _
  simp [IntKind.signed]
/-- The unsigned form. -/
def uns (n : Int) : Nat := if 0 ≤ n then 2 * n.toNat else 2 * (-(n + 1)).toNat + 1

theorem uns_w_p1 (n : Int) : runF P G 88 [int n] [] [] =
    some (AOut.ret (AV.lit (Value.int IntKind.u64 (IntKind.wrap IntKind.u64 (↑(BitVec.toNat (BitVec.ofInt (IntKind.bits IntKind.u64) (IntKind.wrap IntKind.u64 (IntKind.wrap IntKind.u64 n * 2 ^ min (Int.toNat 1) (IntKind.bits IntKind.u64))) ^^^ BitVec.ofInt (IntKind.bits IntKind.u64) (IntKind.wrap IntKind.u64 (Int.fdiv n (2 ^ min (Int.toNat 63) (IntKind.bits IntKind.i64)))))) : Int)))), [], [(0 : Int) ≤ (1 : Int), (0 : Int) ≤ (63 : Int)]) := by kernel_rfl

theorem uns_w (n : Int) (v : Int) (h : (IntKind.wrap IntKind.u64 (↑(BitVec.toNat (BitVec.ofInt (IntKind.bits IntKind.u64) (IntKind.wrap IntKind.u64 (IntKind.wrap IntKind.u64 n * 2 ^ min (Int.toNat 1) (IntKind.bits IntKind.u64))) ^^^ BitVec.ofInt (IntKind.bits IntKind.u64) (IntKind.wrap IntKind.u64 (Int.fdiv n (2 ^ min (Int.toNat 63) (IntKind.bits IntKind.i64)))))) : Int) : Int) = (v)) : CallC P G 88 [int n] [] (AOut.ret (AV.lit (Value.int IntKind.u64 v))) [] := by
  have e1 := h
  exact CallC.out (callC_of_run _ (uns_w_p1 n) ⟨(by omega), (by omega), trivial⟩) (Sub.int_eq e1)

theorem uns_lt {n : Int} (hn : -9223372036854775808 ≤ n ∧ n < 9223372036854775808) : uns n < 18446744073709551616 := by
  unfold uns; split <;> omega
theorem uns_eq {n : Int} (hn : -9223372036854775808 ≤ n ∧ n < 9223372036854775808) : IntKind.wrap IntKind.u64 (↑(BitVec.toNat (BitVec.ofInt (IntKind.bits IntKind.u64) (IntKind.wrap IntKind.u64 (IntKind.wrap IntKind.u64 n * 2 ^ min (Int.toNat 1) (IntKind.bits IntKind.u64))) ^^^ BitVec.ofInt (IntKind.bits IntKind.u64) (IntKind.wrap IntKind.u64 (Int.fdiv n (2 ^ min (Int.toNat 63) (IntKind.bits IntKind.i64)))))) : Int) = (uns n : Int) := by
  have e1 : min (Int.toNat 1) (IntKind.bits IntKind.u64) = 1 := by decide
  have e2 : min (Int.toNat 63) (IntKind.bits IntKind.i64) = 63 := by decide
  have e3 : (2 : Int) ^ 63 = 9223372036854775808 := by decide
  rw [e1, e2, e3]
  unfold uns
  by_cases h : 0 ≤ n
  · rw [if_pos h]
    have f1 : Int.fdiv n 9223372036854775808 = ((0 : Nat) : Int) := by rw [Int.fdiv_eq_ediv_of_nonneg _ (by decide)]; omega
    have f2 : IntKind.wrap IntKind.u64 n = ((n.toNat : Nat) : Int) := by rw [wrap_u64_int]; omega
    have f3 : IntKind.wrap IntKind.u64 (((n.toNat : Nat) : Int) * 2 ^ 1) = ((2 * n.toNat : Nat) : Int) := by rw [wrap_u64_int]; omega
    have f4 : IntKind.wrap IntKind.u64 ((0 : Nat) : Int) = ((0 : Nat) : Int) := by decide
    rw [f1, f2, f3, f4, BitVec.toNat_xor, ofInt_nat, ofInt_nat]
    have f5 : (2 * n.toNat) % 2 ^ IntKind.bits IntKind.u64 ^^^ 0 % 2 ^ IntKind.bits IntKind.u64 = 2 * n.toNat := by
      show (2 * n.toNat) % 2 ^ 64 ^^^ 0 % 2 ^ 64 = _
      rw [Nat.zero_mod, Nat.xor_zero, Nat.mod_eq_of_lt (by omega)]
    rw [f5, wrap64 (by omega)]
  · rw [if_neg h]
    have f1 : Int.fdiv n 9223372036854775808 = -1 := by rw [Int.fdiv_eq_ediv_of_nonneg _ (by decide)]; omega
    have f4 : IntKind.wrap IntKind.u64 (-1) = ((18446744073709551615 : Nat) : Int) := by decide
    have f3 : IntKind.wrap IntKind.u64 (IntKind.wrap IntKind.u64 n * 2 ^ 1) = ((18446744073709551614 - 2 * (-(n + 1)).toNat : Nat) : Int) := by rw [wrap_u64_int, wrap_u64_int]; omega
    rw [f1, f3, f4]
    have f6 : BitVec.ofInt 64 ((18446744073709551615 : Nat) : Int) = BitVec.allOnes 64 := by decide
    show IntKind.wrap IntKind.u64 ((BitVec.ofInt 64 ((18446744073709551614 - 2 * (-(n + 1)).toNat : Nat) : Int) ^^^ BitVec.ofInt 64 ((18446744073709551615 : Nat) : Int)).toNat : Int) = _
    rw [f6, BitVec.xor_allOnes, BitVec.toNat_not, ofInt_nat, Nat.mod_eq_of_lt (by omega)]
    have h7 : (2 : Nat) ^ 64 = 18446744073709551616 := by decide
    rw [h7, wrap64 (by omega)]
    omega
theorem uns_c (n : Int) (hn : -9223372036854775808 ≤ n ∧ n < 9223372036854775808) : CallC P G 88 [int n] [] (.ret (u64 (uns n))) [] := uns_w n _ (uns_eq hn)
/-! Digits -/
def preD : Nat → Nat → List UInt8
  | 0, _ => []
  | f + 1, u => if u < 128 then [] else UInt8.ofNat (u % 128 + 128) :: preD f (u / 128)
def lastD : Nat → Nat → Nat
  | 0, u => u
  | f + 1, u => if u < 128 then u else lastD f (u / 128)
/-- A number's numeral. -/
def num (u : Nat) : List UInt8 := preD 9 u ++ [UInt8.ofNat (lastD 9 u)]
theorem lastD_lt : ∀ (f u : Nat), u < 128 * 128 ^ f → lastD f u < 128
  | 0, u, h => by simpa [lastD] using h
  | f + 1, u, h => by
    simp only [lastD]
    split
    · assumption
    · exact lastD_lt f (u / 128) (by rw [Nat.pow_succ] at h; omega)
theorem preD_len : ∀ (f u : Nat), (preD f u).length ≤ f
  | 0, _ => Nat.le_refl _
  | f + 1, u => by
    simp only [preD]
    split
    · simp
    · have := preD_len f (u / 128); simp; omega
theorem num_len (u : Nat) : (num u).length ≤ 10 ∧ 1 ≤ (num u).length := by
  have := preD_len 9 u
  simp only [num, List.length_append, List.length_cons, List.length_nil]; omega

def nmSt (xs : List (List AV)) (g u : Nat) : St := { env := slots 20 [(0, .own 0 g 0 xs.length), (1, u64 u)], H := [.arr g 1 false xs] }

theorem nm_end_p1 (xs : List (List AV)) (g : Nat) (u : Nat) : loopExit P G none 1 (loopAt P 87 0) (nmSt xs g u) [Orc.br false] (others 20 [0, 1]) 1 =
    some (AEx.exit 0, { env := slots 20 [(0, AV.own 0 g 0 (List.length xs)), (1, AV.lit (Value.int IntKind.u64 (↑u : Int)))], H := [AObj.arr g 1 false xs] }, [decide ((↑u : Int) ≥ (128 : Int)) = false]) := by kernel_rfl

theorem nm_end (xs : List (List AV)) (g u : Nat) (hu : u < 128) (h : True) : RunL P G none 1 (loopAt P 87 0) (nmSt xs g u) (AEx.exit 0) { env := slots 20 [(0, AV.own 0 g 0 (List.length xs)), (1, u64 u)], H := [AObj.arr g 1 false xs] } := by
  have _ := h
  exact RunL.exit _ _ _ (nm_end_p1 xs g u) ⟨(decide_eq_false (by omega)), trivial⟩

theorem nm_step_p1 (xs : List (List AV)) (g : Nat) (u : Nat) : loopStep P G none 1 (loopAt P 87 0) (nmSt xs g u) [Orc.br true] (others 20 [0, 1]) 1 =
    some ({ env := slots 20 [(0, AV.own 0 (g + 1) 0 (List.length xs + 1)), (1, AV.lit (Value.int IntKind.u64 (Int.fdiv (↑u : Int) (2 ^ min (Int.toNat 7) (IntKind.bits IntKind.u64)))))], H := [AObj.arr (g + 1) 1 false (xs ++ [[AV.lit (Value.int IntKind.u8 (IntKind.wrap IntKind.u8 (↑(BitVec.toNat (BitVec.ofInt (IntKind.bits IntKind.u8) (IntKind.wrap IntKind.u8 (↑u : Int)) ||| BitVec.ofInt (IntKind.bits IntKind.u8) 128)) : Int)))]])] }, [decide ((↑u : Int) ≥ (128 : Int)) = true, g = g, List.length xs = List.length xs, (List.length xs + 1) * 1 ≤ 140737488355328, (0 : Int) ≤ (7 : Int)]) := by kernel_rfl

theorem nm_step (xs : List (List AV)) (g u : Nat) (hu : ¬ u < 128) (hl : xs.length ≤ 1000000000) (hids : ∀ x ∈ xs, AV.idsInL [] x = true) (ex : AEx) (s' : St) (h : RunL P G none 1 (loopAt P 87 0) { env := slots 20 [(0, AV.own 0 (g + 1) 0 (List.length xs + 1)), (1, AV.lit (Value.int IntKind.u64 (Int.fdiv (↑u : Int) (2 ^ min (Int.toNat 7) (IntKind.bits IntKind.u64)))))], H := [AObj.arr (g + 1) 1 false (xs ++ [[AV.lit (Value.int IntKind.u8 (IntKind.wrap IntKind.u8 (↑(BitVec.toNat (BitVec.ofInt (IntKind.bits IntKind.u8) (IntKind.wrap IntKind.u8 (↑u : Int)) ||| BitVec.ofInt (IntKind.bits IntKind.u8) 128)) : Int)))]])] } ex s') : RunL P G none 1 (loopAt P 87 0) (nmSt xs g u) ex s' := by
  exact RunL.next _ _ _ (nm_step_p1 xs g u) ⟨(decide_eq_true (by omega)), (rfl), (rfl), (by omega), (by omega), trivial⟩ h

theorem nm_w_p1 (xs : List (List AV)) (ys : List (List AV)) (g : Nat) (g' : Nat) (u : Nat) (v : Nat) : runF P G 87 [AV.own 0 g 0 (List.length xs), u64 u] [AObj.arr g 1 false xs] [Orc.loop [2, 3, 4, 5, 6, 7, 8, 9, 10, 11, 12, 13, 14, 15, 16, 17, 18, 19] 1 (AEx.exit 0) [AV.own 0 g' 0 (List.length ys), AV.lit (Value.int IntKind.u64 (↑v : Int)), AV.dead, AV.dead, AV.dead, AV.dead, AV.dead, AV.dead, AV.dead, AV.dead, AV.dead, AV.dead, AV.dead, AV.dead, AV.dead, AV.dead, AV.dead, AV.dead, AV.dead, AV.dead] [AObj.arr g' 1 false ys]] =
    some (AOut.ret (AV.own 0 (g' + 1) 0 (List.length ys + 1)), [AObj.arr (g' + 1) 1 false (ys ++ [[AV.lit (Value.int IntKind.u8 (IntKind.wrap IntKind.u8 (↑v : Int)))]])], [RunL P G none 1 (loopAt P 87 0) { env := slots 20 [(0, AV.own 0 g 0 (List.length xs)), (1, AV.lit (Value.int IntKind.u64 (↑u : Int)))], H := [AObj.arr g 1 false xs] } (AEx.exit 0) { env := slots 20 [(0, AV.own 0 g' 0 (List.length ys)), (1, AV.lit (Value.int IntKind.u64 (↑v : Int)))], H := [AObj.arr g' 1 false ys] }, g' = g', List.length ys = List.length ys, (List.length ys + 1) * 1 ≤ 140737488355328]) := by kernel_rfl

theorem nm_w (xs ys : List (List AV)) (g g' u v : Nat) (hl : ys.length ≤ 1000000000) (hL : RunL P G none 1 (loopAt P 87 0) (nmSt xs g u) (.exit 0) { env := slots 20 [(0, .own 0 g' 0 ys.length), (1, u64 v)], H := [.arr g' 1 false ys] }) (b : Int) (hb : IntKind.wrap .u8 (v : Int) = b) (h : [AObj.arr (g' + 1) 1 false (ys ++ [[AV.lit (Value.int IntKind.u8 (IntKind.wrap IntKind.u8 (↑v : Int)))]])] = [AObj.arr (g' + 1) 1 false (ys ++ [[AV.lit (Value.int IntKind.u8 b)]])]) : CallC P G 87 [AV.own 0 g 0 (List.length xs), u64 u] [AObj.arr g 1 false xs] (AOut.ret (AV.own 0 (g' + 1) 0 (List.length ys + 1))) [AObj.arr (g' + 1) 1 false (ys ++ [[AV.lit (Value.int IntKind.u8 b)]])] := by
  have eH := h
  exact CallC.heap (callC_of_run _ (nm_w_p1 xs ys g g' u v) ⟨(@hL ), (rfl), (rfl), (by omega), trivial⟩) eH

theorem digit_eq (u : Nat) : IntKind.wrap IntKind.u8 (↑(BitVec.toNat (BitVec.ofInt (IntKind.bits IntKind.u8) (IntKind.wrap IntKind.u8 (↑u : Int)) ||| BitVec.ofInt (IntKind.bits IntKind.u8) 128)) : Int) = ((UInt8.ofNat (u % 128 + 128)).toNat : Int) := by
  have e0 : (128 : Int) = ((128 : Nat) : Int) := rfl
  rw [wrap_u8 u, e0, BitVec.toNat_or, ofInt_nat, ofInt_nat]
  show IntKind.wrap IntKind.u8 (((u % 256 % 2 ^ 8) ||| (128 % 2 ^ 8) : Nat) : Int) = _
  have e1 : ∀ x : Nat, x < 256 → (x % 2 ^ 8) ||| (128 % 2 ^ 8) = x % 128 + 128 := fun x hx => by
    have a1 : x % 2 ^ 8 = x := Nat.mod_eq_of_lt hx
    have a2 : (128 % 2 ^ 8 : Nat) = 2 ^ 7 * 1 := rfl
    have a3 : 2 ^ 7 * 1 ||| x % 128 = 2 ^ 7 * 1 + x % 128 := (Nat.two_pow_add_eq_or_of_lt (show x % 128 < 2 ^ 7 from Nat.mod_lt _ (by decide)) 1).symm
    rw [a1, a2]
    rcases Nat.lt_or_ge x 128 with h | h
    · have a4 : x = x % 128 := (Nat.mod_eq_of_lt h).symm
      rw [a4, Nat.or_comm, a3, Nat.mod_mod]
      omega
    · have a4 : x = 2 ^ 7 * 1 ||| x % 128 := by rw [a3]; omega
      have a5 : x ||| 2 ^ 7 * 1 = 2 ^ 7 * 1 ||| x % 128 := by
        conv => lhs; rw [a4]
        rw [Nat.or_comm, ← Nat.or_assoc, Nat.or_self]
      rw [a5, a3]
      omega
  have := e1 (u % 256) (Nat.mod_lt _ (by decide))
  rw [this, show u % 256 % 128 = u % 128 by omega, wrap8 (by omega), UInt8.toNat_ofNat']
  congr 1
  exact (Nat.mod_eq_of_lt (by omega)).symm
theorem byte_last {v : Nat} (h : v < 128) : IntKind.wrap .u8 (v : Int) = ((UInt8.ofNat v).toNat : Int) := by
  rw [wrap8 (by omega), UInt8.toNat_ofNat']
  congr 1
  exact (Nat.mod_eq_of_lt (by omega)).symm
theorem shr7 (u : Nat) : Int.fdiv (↑u : Int) (2 ^ min (Int.toNat 7) (IntKind.bits IntKind.u64)) = ((u / 128 : Nat) : Int) := by
  show Int.fdiv (u : Int) (2 ^ 7) = _
  rw [show (2 : Int) ^ 7 = 128 from by decide, Int.fdiv_eq_ediv_of_nonneg _ (by decide)]
  omega
theorem nm_loop : ∀ (f u g : Nat) (xs : List (List AV)), u < 128 * 128 ^ f → xs.length + f ≤ 1000000000 → (∀ x ∈ xs, AV.idsInL [] x = true) →
    RunL P G none 1 (loopAt P 87 0) (nmSt xs g u) (.exit 0) { env := slots 20 [(0, .own 0 (g + (preD f u).length) 0 (xs ++ bys (preD f u)).length), (1, u64 (lastD f u))], H := [.arr (g + (preD f u).length) 1 false (xs ++ bys (preD f u))] }
  | 0, u, g, xs, hu, hl, hx => by
    have e : xs ++ bys (preD 0 u) = xs := by simp [preD, bys]
    rw [e]
    exact nm_end xs g u (by simpa using hu) trivial
  | f + 1, u, g, xs, hu, hl, hx => by
    by_cases h : u < 128
    · have e : xs ++ bys (preD (f + 1) u) = xs := by simp [preD, bys, h]
      rw [e]
      simp only [preD, lastD, h, if_true]
      exact nm_end xs g u h trivial
    · refine nm_step xs g u h (by omega) hx _ _ ?_
      have ih := nm_loop f (u / 128) (g + 1) (xs ++ [byt1 (UInt8.ofNat (u % 128 + 128))]) (by rw [Nat.pow_succ] at hu; omega) (by simp; omega) (by
        intro x hx'
        rcases List.mem_append.1 hx' with h' | h'
        · exact hx x h'
        · rw [List.mem_singleton.1 h']; rfl)
      simp only [preD, lastD, h, if_false]
      rw [digit_eq, shr7]
      have e2 : xs ++ bys (UInt8.ofNat (u % 128 + 128) :: preD f (u / 128)) = (xs ++ [byt1 (UInt8.ofNat (u % 128 + 128))]) ++ bys (preD f (u / 128)) := by simp [bys]
      have e3 : g + (UInt8.ofNat (u % 128 + 128) :: preD f (u / 128)).length = g + 1 + (preD f (u / 128)).length := by simp; omega
      rw [e2, e3]
      unfold nmSt at ih
      rw [show (xs ++ [byt1 (UInt8.ofNat (u % 128 + 128))]).length = xs.length + 1 by simp] at ih
      exact ih
theorem numeral_c (xs : List (List AV)) (g u : Nat) (hu : u < 18446744073709551616) (hl : xs.length ≤ 100000000) (hx : ∀ x ∈ xs, AV.idsInL [] x = true) :
    CallC P G 87 [.own 0 g 0 xs.length, u64 u] [.arr g 1 false xs] (.ret (.own 0 (g + (num u).length) 0 (xs.length + (num u).length))) [.arr (g + (num u).length) 1 false (xs ++ bys (num u))] := by
  have hu' : u < 128 * 128 ^ 9 := by
    have : (128 : Nat) * 128 ^ 9 = 1180591620717411303424 := by decide
    omega
  have hp := preD_len 9 u
  have := nm_w xs (xs ++ bys (preD 9 u)) g (g + (preD 9 u).length) u (lastD 9 u) (by simp [bys_length]; omega) (nm_loop 9 u g xs hu' (by omega) hx) _ (byte_last (lastD_lt 9 u hu')) (by rw [byte_last (lastD_lt 9 u hu')])
  have e1 : g + (num u).length = g + (preD 9 u).length + 1 := by simp [num]; omega
  have e2 : xs ++ bys (num u) = (xs ++ bys (preD 9 u)) ++ [byt1 (UInt8.ofNat (lastD 9 u))] := by simp [num, bys]
  have e3 : xs.length + (num u).length = (xs ++ bys (preD 9 u)).length + 1 := by simp [num, bys_length]; omega
  rw [e1, e2, e3]
  exact this

/-! The reference's numerals -/
/-- Digits, the reference's way. -/
def numN : Nat → Nat → List UInt8
  | 0, u => [UInt8.ofNat u]
  | f + 1, u => if u < 128 then [UInt8.ofNat u] else UInt8.ofNat (u % 128 + 128) :: numN f (u / 128)
theorem numN_eq : ∀ (f u : Nat), numN f u = preD f u ++ [UInt8.ofNat (lastD f u)]
  | 0, u => rfl
  | f + 1, u => by
    simp only [numN, preD, lastD]
    split
    · rfl
    · rw [numN_eq f (u / 128)]; rfl

end Go.Cdc

/- CODEC, 5: Check in both packages; few parts. -/
namespace Go.Cdc
set_option maxRecDepth 100000
set_option linter.unusedSimpArgs false
set_option linter.unusedVariables false
open Go Go.Am Go.Proofs Go.Seat

def chkE (v : CV) : Int := if wf v = true then (if 16 < dp v then 2 else 0) else 1

theorem check_w (v : CV) (d : Nat) (b : Bool) (e : Int) (hv : CallC P G 85 [val v] [] (.ret (.tup [int (if b = true then (d : Int) else 0), bool b])) []) (h : ((((b) = true) → ((((if b = true then (↑d : Int) else 0) > (16 : Int)) → (2 : Int) = (e)) ∧ ((¬(if b = true then (↑d : Int) else 0) > (16 : Int)) → (0 : Int) = (e)))) ∧ (((b) = false) → (1 : Int) = (e)))) : CallC P G 62 [val v] [] (AOut.ret (int e)) [] := by
  have hz0 := (@hv )
  rcases Bool.eq_false_or_eq_true ((b)) with c1 | c1
  · have h := h.1 c1
    have hz1 : (!b) = false := (congrArg Bool.not (c1))
    by_cases c2 : ((if b = true then (↑d : Int) else 0) > (16 : Int))
    · have h := h.1 c2
      have e1 := h
      exact callC_out (Sub.int_eq e1) [kc [] hz0, kf hz1, kt (decide_eq_true c2)] (by kernel_rfl)
    · have h := h.2 c2
      have e1 := h
      exact callC_out (Sub.int_eq e1) [kc [] hz0, kf hz1, kf (decide_eq_false c2)] (by kernel_rfl)
  · have h := h.2 c1
    have e1 := h
    exact callC_out (Sub.int_eq e1) [kc [] hz0, kt (show (!b) = true from (congrArg Bool.not (c1)))] (by kernel_rfl)

theorem check_c (v : CV) (hok : Okv v) (hd : dp v ≤ 1000001) : CallC P G 62 [val v] [] (.ret (int (chkE v))) [] := by
  have hf := formed_c v hok hd
  unfold FormedC at hf
  refine check_w v (dp v) (wf v) _ hf ⟨fun h => ⟨fun h2 => ?_, fun h2 => ?_⟩, fun h => ?_⟩
  · rw [if_pos h] at h2; simp only [chkE, h, if_true]; rw [if_pos (by omega)]
  · rw [if_pos h] at h2; simp only [chkE, h, if_true]; rw [if_neg (by omega)]
  · simp [chkE, h]

/-! The contracts -/
/-! Few -/
end Go.Cdc

/- CODEC, 7: the program's writers. -/
namespace Go.Cdc
set_option maxRecDepth 100000
set_option linter.unusedSimpArgs false
set_option linter.unusedVariables false
open Go Go.Am Go.Proofs Go.Seat

theorem numeral_n (xs : List (List AV)) (g u n : Nat) (hn : n = xs.length) (hu : u < 18446744073709551616) (hl : xs.length ≤ 100000000) (hx : ∀ x ∈ xs, AV.idsInL [] x = true) :
    CallC P G 87 [.own 0 g 0 n, u64 u] [.arr g 1 false xs] (.ret (.own 0 (g + (num u).length) 0 (n + (num u).length))) [.arr (g + (num u).length) 1 false (xs ++ bys (num u))] := by
  subst hn; exact numeral_c xs g u hu hl hx
/-- The writers' kinds, in the heap: the array, and the variable that holds its address. -/
def kinds (i j : Nat) : List AObj := [.box [.lit .nilFunc, .lit (.func (.func 86) #[] #[]), .lit (.func (.func 89) #[] #[]), .fn (.func 90) [] [.ptr j 0]], .box [.ptr i 0]]

theorem nw_w  (h : True) : CallC P G 63 [] [] (AOut.ret (AV.ptr 0 0)) (kinds 0 1) := by
  have _ := h
  exact callC_of [kp (show (0 : Int) ≤ (1 : Int) ∧ (1 : Int) < (4 : Int) from (by omega)), kp (show (0 : Int) ≤ (2 : Int) ∧ (2 : Int) < (4 : Int) from (by omega)), kp (show (0 : Int) ≤ (3 : Int) ∧ (3 : Int) < (4 : Int) from (by omega))] (by kernel_rfl)

mutual
/-- The encoding. -/
def encB : CV → List UInt8
  | .mk k n s l => if k = 1 then 1 :: num (uns n) else if k = 2 then 2 :: (num s.size ++ s.data.toList) else 3 :: (num l.length ++ encBL l)
def encBL : List CV → List UInt8
  | [] => []
  | v :: l => encB v ++ encBL l
end
mutual
/-- How often an encoding's buffer is renewed. -/
def gens : CV → Nat
  | .mk k n s l => if k = 1 then 1 + (num (uns n)).length else if k = 2 then 2 + (num s.size).length else 1 + (num l.length).length + gensL l
def gensL : List CV → Nat
  | [] => 0
  | v :: l => gens v + gensL l
end
theorem w1_own (a : List UInt8) (g : Nat) (n : Int) (s : ByteArray) (l : List CV) (hn : -9223372036854775808 ≤ n ∧ n < 9223372036854775808) (hu : uns n < 18446744073709551616) (hl : a.length ≤ 10000000) (h : (Sub (AV.own 0 (g + 1 + List.length (num (uns n))) 0 (List.length a + 1 + List.length (num (uns n)))) (AV.own 0 (g + (1 + List.length (num (uns n)))) 0 (List.length (a ++ 1 :: num (uns n))))) ∧ ([AObj.arr (g + 1 + List.length (num (uns n))) 1 false (bys a ++ [[AV.lit (Value.int IntKind.u8 1)]] ++ bys (num (uns n)))] = [AObj.arr (g + (1 + List.length (num (uns n)))) 1 false (bys (a ++ 1 :: num (uns n)))])) : CallC P G 86 [AV.own 0 g 0 (List.length a), vmk 1 n s l] [AObj.arr g 1 false (bys a)] (AOut.ret (AV.own 0 (g + (1 + List.length (num (uns n)))) 0 (List.length (a ++ 1 :: num (uns n))))) [AObj.arr (g + (1 + List.length (num (uns n)))) 1 false (bys (a ++ 1 :: num (uns n)))] := by
  have hz5 : ∀ (x : List AV), x ∈ bys a ++ [[AV.lit (Value.int IntKind.u8 1)]] ++ bys (num (uns n)) → AV.idsInL [] x = true := (by exact (Am.allm_append (Am.allm_append (Go.Cdc.bys_ids _) (Am.allm_cons rfl Am.allm_nil)) (Go.Cdc.bys_ids _)))
  obtain ⟨e1, eH⟩ := h
  exact CallC.heap (CallC.out ((show CallC P G 86 [AV.own 0 g 0 (List.length a), vmk 1 n s l] [AObj.arr g 1 false (bys a)] (AOut.ret (AV.own 0 (g + 1 + List.length (num (uns n))) 0 (List.length a + 1 + List.length (num (uns n))))) [AObj.arr (g + 1 + List.length (num (uns n))) 1 false (bys a ++ [[AV.lit (Value.int IntKind.u8 1)]] ++ bys (num (uns n)))] from callC_of [kp (show g = g from (rfl)), kp (show List.length a = List.length (bys a) from ((Go.Cdc.bys_length _).symm)), kp (show (List.length a + 1) * 1 ≤ 140737488355328 from (by omega)), kc [] (@Go.Cdc.uns_c (n) (by omega)), kc [0] (@Go.Cdc.numeral_n (bys a ++ [[AV.lit (Value.int IntKind.u8 1)]]) (g + 1) (uns n) (List.length a + 1) (by simp only [List.length_append, List.length_cons, List.length_nil, List.length_map, Go.Cdc.bys_length, Go.Cdc.bys_ids, Go.Cdc.bys_pure, Go.Cdc.bdata_length, Go.Cdc.strB_ids, Go.Cdc.strB_pure] <;> omega) (by omega) (by simp only [List.length_append, List.length_cons, List.length_nil, List.length_map, Go.Cdc.bys_length, Go.Cdc.bys_ids, Go.Cdc.bys_pure, Go.Cdc.bdata_length, Go.Cdc.strB_ids, Go.Cdc.strB_pure] <;> omega) (by exact (Am.allm_append (Go.Cdc.bys_ids _) (Am.allm_cons rfl Am.allm_nil)))), kp hz5, kp (show ∀ (x : List AV), x ∈ bys a ++ chunks (TypeInfo.size (Tables.types (Program.toTables P))[5]) 1 (splice (zerosA (List.map AV.lit (Array.toList (Value.cells (Value.int IntKind.u8 0)))) (1 * TypeInfo.size (Tables.types (Program.toTables P))[5])) (0 * TypeInfo.size (Tables.types (Program.toTables P))[5]) [AV.lit (Value.int IntKind.u8 1)]) → AV.idsInL [] x = true from (by exact (Am.allm_append (Go.Cdc.bys_ids _) (Am.allm_cons rfl Am.allm_nil)))), kp hz5] (by kernel_rfl))) e1) eH

theorem w1_nil (n : Int) (s : ByteArray) (l : List CV) (hn : -9223372036854775808 ≤ n ∧ n < 9223372036854775808) (hu : uns n < 18446744073709551616) (h : True) : CallC P G 86 [nilS, vmk 1 n s l] [] (AOut.ret (byt (1 :: num (uns n)))) [] := by
  have _ := h
  exact callC_of [kp (show [[AV.lit (Value.int IntKind.u8 1)]] ≠ [] from (by simp)), kp (show 1 ≤ 140737488355328 from (by omega)), kc [] (@Go.Cdc.uns_c (n) (by omega)), kc [1] (@Go.Cdc.numeral_n ([[AV.lit (Value.int IntKind.u8 1)]]) (0) (uns n) (1) (rfl) (by omega) (by simp only [List.length_append, List.length_cons, List.length_nil, List.length_map, Go.Cdc.bys_length, Go.Cdc.bys_ids, Go.Cdc.bys_pure, Go.Cdc.bdata_length, Go.Cdc.strB_ids, Go.Cdc.strB_pure] <;> omega) (by exact (Am.allm_cons rfl Am.allm_nil))), ko (Orc.frz ([AV.lit (Value.int IntKind.u8 1)] :: bys (num (uns n)))), kp (show ∀ (x : List AV), x ∈ [[AV.lit (Value.int IntKind.u8 1)]] ++ bys (num (uns n)) → AV.idsInL [] x = true from (by exact (Am.allm_append (Am.allm_cons rfl Am.allm_nil) (Go.Cdc.bys_ids _)))), kp (show ∀ (x : List AV), x ∈ chunks (TypeInfo.size (Tables.types (Program.toTables P))[5]) 1 (splice (zerosA (List.map AV.lit (Array.toList (Value.cells (Value.int IntKind.u8 0)))) (1 * TypeInfo.size (Tables.types (Program.toTables P))[5])) (0 * TypeInfo.size (Tables.types (Program.toTables P))[5]) [AV.lit (Value.int IntKind.u8 1)]) → AV.idsInL [] x = true from (by exact (Am.allm_cons rfl Am.allm_nil))), kp (show 0 + List.length (num (uns n)) = 0 + List.length (num (uns n)) from (rfl)), kp (show List.take (1 + List.length (num (uns n))) (List.drop 0 ([AV.lit (Value.int IntKind.u8 1)] :: bys (num (uns n)))) = [AV.lit (Value.int IntKind.u8 1)] :: bys (num (uns n)) from (by rw [List.drop_zero, List.take_of_length_le (by simp only [List.length_append, List.length_cons, List.length_nil, List.length_map, Go.Cdc.bys_length, Go.Cdc.bys_ids, Go.Cdc.bys_pure, Go.Cdc.bdata_length, Go.Cdc.strB_ids, Go.Cdc.strB_pure] <;> omega)])), kp (show List.length ([AV.lit (Value.int IntKind.u8 1)] :: bys (num (uns n))) = 1 + List.length (num (uns n)) from (by simp only [List.length_append, List.length_cons, List.length_nil, List.length_map, Go.Cdc.bys_length, Go.Cdc.bys_ids, Go.Cdc.bys_pure, Go.Cdc.bdata_length, Go.Cdc.strB_ids, Go.Cdc.strB_pure] <;> omega)), kp (show ∀ (c : List AV), c ∈ [AV.lit (Value.int IntKind.u8 1)] :: bys (num (uns n)) → List.all c AV.pureB = true from (by exact (Am.allm_cons rfl (Go.Cdc.bys_pure _))))] (by kernel_rfl)

theorem w2_own (a : List UInt8) (g : Nat) (n : Int) (s : ByteArray) (l : List CV) (hs : s.size ≤ 10000000) (hl : a.length ≤ 10000000) (h : (((List.length a + 1 + List.length (num (ByteArray.size s % 18446744073709551616)) + List.length (List.map (fun (c : UInt8) => [AV.lit (Value.int IntKind.u8 (↑(UInt8.toNat c) : Int))]) (Array.toList (ByteArray.data s)))) * 1 ≤ 140737488355328) ∧ (Sub (AV.own 0 (g + 1 + List.length (num (ByteArray.size s % 18446744073709551616)) + 1) 0 (List.length a + 1 + List.length (num (ByteArray.size s % 18446744073709551616)) + List.length (List.map (fun (c : UInt8) => [AV.lit (Value.int IntKind.u8 (↑(UInt8.toNat c) : Int))]) (Array.toList (ByteArray.data s))))) (AV.own 0 (g + (2 + List.length (num (ByteArray.size s)))) 0 (List.length (a ++ 2 :: (num (ByteArray.size s) ++ Array.toList (ByteArray.data s)))))) ∧ ([AObj.arr (g + 1 + List.length (num (ByteArray.size s % 18446744073709551616)) + 1) 1 false (bys a ++ [[AV.lit (Value.int IntKind.u8 2)]] ++ bys (num (ByteArray.size s % 18446744073709551616)) ++ List.map (fun (c : UInt8) => [AV.lit (Value.int IntKind.u8 (↑(UInt8.toNat c) : Int))]) (Array.toList (ByteArray.data s)))] = [AObj.arr (g + (2 + List.length (num (ByteArray.size s)))) 1 false (bys (a ++ 2 :: (num (ByteArray.size s) ++ Array.toList (ByteArray.data s))))]))) : CallC P G 89 [AV.own 0 g 0 (List.length a), vmk 2 n s l] [AObj.arr g 1 false (bys a)] (AOut.ret (AV.own 0 (g + (2 + List.length (num (ByteArray.size s)))) 0 (List.length (a ++ 2 :: (num (ByteArray.size s) ++ Array.toList (ByteArray.data s)))))) [AObj.arr (g + (2 + List.length (num (ByteArray.size s)))) 1 false (bys (a ++ 2 :: (num (ByteArray.size s) ++ Array.toList (ByteArray.data s))))] := by
  obtain ⟨o1, h⟩ := h
  obtain ⟨e1, eH⟩ := h
  exact CallC.heap (CallC.out ((show CallC P G 89 [AV.own 0 g 0 (List.length a), vmk 2 n s l] [AObj.arr g 1 false (bys a)] (AOut.ret (AV.own 0 (g + 1 + List.length (num (ByteArray.size s % 18446744073709551616)) + 1) 0 (List.length a + 1 + List.length (num (ByteArray.size s % 18446744073709551616)) + List.length (List.map (fun (c : UInt8) => [AV.lit (Value.int IntKind.u8 (↑(UInt8.toNat c) : Int))]) (Array.toList (ByteArray.data s)))))) [AObj.arr (g + 1 + List.length (num (ByteArray.size s % 18446744073709551616)) + 1) 1 false (bys a ++ [[AV.lit (Value.int IntKind.u8 2)]] ++ bys (num (ByteArray.size s % 18446744073709551616)) ++ List.map (fun (c : UInt8) => [AV.lit (Value.int IntKind.u8 (↑(UInt8.toNat c) : Int))]) (Array.toList (ByteArray.data s)))] from callC_of [kp (show g = g from (rfl)), kp (show List.length a = List.length (bys a) from ((Go.Cdc.bys_length _).symm)), kp (show (List.length a + 1) * 1 ≤ 140737488355328 from (by omega)), kc [0] (@Go.Cdc.numeral_n (bys a ++ [[AV.lit (Value.int IntKind.u8 2)]]) (g + 1) (ByteArray.size s % 18446744073709551616) (List.length a + 1) (by simp only [List.length_append, List.length_cons, List.length_nil, List.length_map, Go.Cdc.bys_length, Go.Cdc.bys_ids, Go.Cdc.bys_pure, Go.Cdc.bdata_length, Go.Cdc.strB_ids, Go.Cdc.strB_pure] <;> omega) (by omega) (by simp only [List.length_append, List.length_cons, List.length_nil, List.length_map, Go.Cdc.bys_length, Go.Cdc.bys_ids, Go.Cdc.bys_pure, Go.Cdc.bdata_length, Go.Cdc.strB_ids, Go.Cdc.strB_pure] <;> omega) (by exact (Am.allm_append (Go.Cdc.bys_ids _) (Am.allm_cons rfl Am.allm_nil)))), kp (show ∀ (x : List AV), x ∈ bys a ++ [[AV.lit (Value.int IntKind.u8 2)]] ++ bys (num (ByteArray.size s % 18446744073709551616)) → AV.idsInL [] x = true from (by exact (Am.allm_append (Am.allm_append (Go.Cdc.bys_ids _) (Am.allm_cons rfl Am.allm_nil)) (Go.Cdc.bys_ids _)))), kp (show ∀ (x : List AV), x ∈ bys a ++ chunks (TypeInfo.size (Tables.types (Program.toTables P))[5]) 1 (splice (zerosA (List.map AV.lit (Array.toList (Value.cells (Value.int IntKind.u8 0)))) (1 * TypeInfo.size (Tables.types (Program.toTables P))[5])) (0 * TypeInfo.size (Tables.types (Program.toTables P))[5]) [AV.lit (Value.int IntKind.u8 2)]) → AV.idsInL [] x = true from (by exact (Am.allm_append (Go.Cdc.bys_ids _) (Am.allm_cons rfl Am.allm_nil)))), kp (show g + 1 + List.length (num (ByteArray.size s % 18446744073709551616)) = g + 1 + List.length (num (ByteArray.size s % 18446744073709551616)) from (rfl)), kp (show List.length a + 1 + List.length (num (ByteArray.size s % 18446744073709551616)) = List.length (bys a ++ [[AV.lit (Value.int IntKind.u8 2)]] ++ bys (num (ByteArray.size s % 18446744073709551616))) from (by simp only [List.length_append, List.length_cons, List.length_nil, List.length_map, Go.Cdc.bys_length, Go.Cdc.bys_ids, Go.Cdc.bys_pure, Go.Cdc.bdata_length, Go.Cdc.strB_ids, Go.Cdc.strB_pure] <;> omega)), kp o1, kp (show ∀ (x : List AV), x ∈ bys a ++ [[AV.lit (Value.int IntKind.u8 2)]] ++ bys (num (ByteArray.size s % 18446744073709551616)) ++ List.map (fun (c : UInt8) => [AV.lit (Value.int IntKind.u8 (↑(UInt8.toNat c) : Int))]) (Array.toList (ByteArray.data s)) → AV.idsInL [] x = true from (by exact (Am.allm_append (Am.allm_append (Am.allm_append (Go.Cdc.bys_ids _) (Am.allm_cons rfl Am.allm_nil)) (Go.Cdc.bys_ids _)) (Go.Cdc.strB_ids _))))] (by kernel_rfl))) e1) eH

theorem w2_nil (n : Int) (s : ByteArray) (l : List CV) (hs : s.size ≤ 10000000) (h : (((1 + List.length (num (ByteArray.size s % 18446744073709551616)) + List.length (List.map (fun (c : UInt8) => [AV.lit (Value.int IntKind.u8 (↑(UInt8.toNat c) : Int))]) (Array.toList (ByteArray.data s)))) * 1 ≤ 140737488355328) ∧ ([AV.lit (Value.int IntKind.u8 2)] :: bys (num (ByteArray.size s % 18446744073709551616)) ++ List.map (fun (c : UInt8) => [AV.lit (Value.int IntKind.u8 (↑(UInt8.toNat c) : Int))]) (Array.toList (ByteArray.data s))) = (bys (2 :: (num (ByteArray.size s) ++ Array.toList (ByteArray.data s)))))) : CallC P G 89 [nilS, vmk 2 n s l] [] (AOut.ret (byt (2 :: (num (ByteArray.size s) ++ Array.toList (ByteArray.data s))))) [] := by
  obtain ⟨o1, h⟩ := h
  have e1 := h
  exact CallC.out ((show CallC P G 89 [nilS, vmk 2 n s l] [] (AOut.ret (AV.sl 1 false ([AV.lit (Value.int IntKind.u8 2)] :: bys (num (ByteArray.size s % 18446744073709551616)) ++ List.map (fun (c : UInt8) => [AV.lit (Value.int IntKind.u8 (↑(UInt8.toNat c) : Int))]) (Array.toList (ByteArray.data s))))) [] from callC_of [kp (show [[AV.lit (Value.int IntKind.u8 2)]] ≠ [] from (by simp)), kp (show 1 ≤ 140737488355328 from (by omega)), kc [1] (@Go.Cdc.numeral_n ([[AV.lit (Value.int IntKind.u8 2)]]) (0) (ByteArray.size s % 18446744073709551616) (1) (rfl) (by omega) (by simp only [List.length_append, List.length_cons, List.length_nil, List.length_map, Go.Cdc.bys_length, Go.Cdc.bys_ids, Go.Cdc.bys_pure, Go.Cdc.bdata_length, Go.Cdc.strB_ids, Go.Cdc.strB_pure] <;> omega) (by exact (Am.allm_cons rfl Am.allm_nil))), ko (Orc.frz ([AV.lit (Value.int IntKind.u8 2)] :: bys (num (ByteArray.size s % 18446744073709551616)) ++ List.map (fun (c : UInt8) => [AV.lit (Value.int IntKind.u8 (↑(UInt8.toNat c) : Int))]) (Array.toList (ByteArray.data s)))), kp (show ∀ (x : List AV), x ∈ [[AV.lit (Value.int IntKind.u8 2)]] ++ bys (num (ByteArray.size s % 18446744073709551616)) → AV.idsInL [] x = true from (by exact (Am.allm_append (Am.allm_cons rfl Am.allm_nil) (Go.Cdc.bys_ids _)))), kp (show ∀ (x : List AV), x ∈ chunks (TypeInfo.size (Tables.types (Program.toTables P))[5]) 1 (splice (zerosA (List.map AV.lit (Array.toList (Value.cells (Value.int IntKind.u8 0)))) (1 * TypeInfo.size (Tables.types (Program.toTables P))[5])) (0 * TypeInfo.size (Tables.types (Program.toTables P))[5]) [AV.lit (Value.int IntKind.u8 2)]) → AV.idsInL [] x = true from (by exact (Am.allm_cons rfl Am.allm_nil))), kp (show 0 + List.length (num (ByteArray.size s % 18446744073709551616)) = 0 + List.length (num (ByteArray.size s % 18446744073709551616)) from (rfl)), kp (show 1 + List.length (num (ByteArray.size s % 18446744073709551616)) = List.length ([AV.lit (Value.int IntKind.u8 2)] :: bys (num (ByteArray.size s % 18446744073709551616))) from (by simp only [List.length_append, List.length_cons, List.length_nil, List.length_map, Go.Cdc.bys_length, Go.Cdc.bys_ids, Go.Cdc.bys_pure, Go.Cdc.bdata_length, Go.Cdc.strB_ids, Go.Cdc.strB_pure] <;> omega)), kp o1, kp (show 0 + List.length (num (ByteArray.size s % 18446744073709551616)) + 1 = 0 + List.length (num (ByteArray.size s % 18446744073709551616)) + 1 from (rfl)), kp (show List.take (1 + List.length (num (ByteArray.size s % 18446744073709551616)) + List.length (List.map (fun (c : UInt8) => [AV.lit (Value.int IntKind.u8 (↑(UInt8.toNat c) : Int))]) (Array.toList (ByteArray.data s)))) (List.drop 0 ([AV.lit (Value.int IntKind.u8 2)] :: bys (num (ByteArray.size s % 18446744073709551616)) ++ List.map (fun (c : UInt8) => [AV.lit (Value.int IntKind.u8 (↑(UInt8.toNat c) : Int))]) (Array.toList (ByteArray.data s)))) = [AV.lit (Value.int IntKind.u8 2)] :: bys (num (ByteArray.size s % 18446744073709551616)) ++ List.map (fun (c : UInt8) => [AV.lit (Value.int IntKind.u8 (↑(UInt8.toNat c) : Int))]) (Array.toList (ByteArray.data s)) from (by rw [List.drop_zero, List.take_of_length_le (by simp only [List.length_append, List.length_cons, List.length_nil, List.length_map, Go.Cdc.bys_length, Go.Cdc.bys_ids, Go.Cdc.bys_pure, Go.Cdc.bdata_length, Go.Cdc.strB_ids, Go.Cdc.strB_pure] <;> omega)])), kp (show List.length ([AV.lit (Value.int IntKind.u8 2)] :: bys (num (ByteArray.size s % 18446744073709551616)) ++ List.map (fun (c : UInt8) => [AV.lit (Value.int IntKind.u8 (↑(UInt8.toNat c) : Int))]) (Array.toList (ByteArray.data s))) = 1 + List.length (num (ByteArray.size s % 18446744073709551616)) + List.length (List.map (fun (c : UInt8) => [AV.lit (Value.int IntKind.u8 (↑(UInt8.toNat c) : Int))]) (Array.toList (ByteArray.data s))) from (by simp only [List.length_append, List.length_cons, List.length_nil, List.length_map, Go.Cdc.bys_length, Go.Cdc.bys_ids, Go.Cdc.bys_pure, Go.Cdc.bdata_length, Go.Cdc.strB_ids, Go.Cdc.strB_pure] <;> omega)), kp (show ∀ (c : List AV), c ∈ [AV.lit (Value.int IntKind.u8 2)] :: bys (num (ByteArray.size s % 18446744073709551616)) ++ List.map (fun (c : UInt8) => [AV.lit (Value.int IntKind.u8 (↑(UInt8.toNat c) : Int))]) (Array.toList (ByteArray.data s)) → List.all c AV.pureB = true from (by exact (Am.allm_append (Am.allm_cons rfl (Go.Cdc.bys_pure _)) (Go.Cdc.strB_pure _))))] (by kernel_rfl))) (Sub.list_eq e1)

def wrSt (xs : List (List AV)) (N g : Nat) (n0 : Int) (s0 : ByteArray) (l : List CV) (i : Nat) : St := { env := slots 35 [(0, .own 0 g 0 N), (2, .ptr 2 0), (17, .sl 4 false (encL l)), (18, int l.length), (19, int i)], H := .arr g 1 false xs :: (kinds 1 2 ++ [.box [int 3, int n0, str s0, .sl 4 false (encL l)]]) }

theorem wr_end (xs : List (List AV)) (N g : Nat) (n0 : Int) (s0 : ByteArray) (l : List CV) (i : Nat) (hi : l.length ≤ i) (h : True) : RunL P G none 3 (loopAt P 90 0) (wrSt xs N g n0 s0 l i) (AEx.exit 0) { env := slots 35 [(0, AV.own 0 g 0 N)], H := AObj.arr g 1 false xs :: (kinds 1 2 ++ [AObj.box [int 3, int n0, str s0, AV.sl 4 false (encL l)]]) } := by
  have _ := h
  exact loop_exit [kf (show decide ((↑i : Int) < (↑(List.length l) : Int)) = false from (decide_eq_false (by omega)))] (others 35 [0]) 4 (by kernel_rfl)

theorem wr_step1 (xs ys : List (List AV)) (N M g g' : Nat) (n0 : Int) (s0 : ByteArray) (l : List CV) (i : Nat) (n : Int) (s : ByteArray) (m : List CV) (hi : i < l.length) (hl : l.length ≤ 9223372036854775807) (hx : l[i]? = some (.mk 1 n s m)) (hv : CallC P G 86 [.own 0 g 0 N, vmk 1 n s m] [.arr g 1 false xs] (.ret (.own 0 g' 0 M)) [.arr g' 1 false ys]) (ex : AEx) (s' : St) (h : (((0 : Int) ≤ CV.k (CV.mk 1 n s m) ∧ CV.k (CV.mk 1 n s m) < (4 : Int)) ∧ ((∀ (x : List AV), x ∈ ys → AV.idsInL [] x = true) ∧ ((∀ (x : List AV), x ∈ xs → AV.idsInL [] x = true) ∧ RunL P G none 3 (loopAt P 90 0) { env := slots 35 [(0, AV.own 0 g' 0 M), (2, AV.ptr 2 0), (17, AV.sl 4 false (encL l)), (18, int (↑(List.length l) : Int)), (19, int (↑(i + 1) : Int))], H := [AObj.arr g' 1 false ys, AObj.box [AV.lit Value.nilFunc, AV.lit (Value.func (Fn.func 86) { toList := [] } { toList := [] }), AV.lit (Value.func (Fn.func 89) { toList := [] } { toList := [] }), AV.fn (Fn.func 90) [] [AV.ptr 2 0]], AObj.box [AV.ptr 1 0], AObj.box [int 3, int n0, str s0, AV.sl 4 false (encL l)]] } ex s')))) : RunL P G none 3 (loopAt P 90 0) (wrSt xs N g n0 s0 l i) ex s' := by
  obtain ⟨o2, h⟩ := h
  obtain ⟨o3, h⟩ := h
  obtain ⟨o4, h⟩ := h
  exact loop_next [kt (show decide ((↑i : Int) < (↑(List.length l) : Int)) = true from (decide_eq_true (by omega))), ko (Orc.elem (enc (CV.mk 1 n s m))), kp (show (0 : Int) ≤ (↑i : Int) ∧ (encL l)[Int.toNat (↑i : Int)]? = some (enc (CV.mk 1 n s m)) from (by rw [Go.Cdc.encL_map]; exact el_nat hx)), kp o2, kc [0] (@hv ), kp o3, kp o4, kv 33 (show Am.Sub (int (IntKind.wrap IntKind.i64 ((↑i : Int) + 1))) (int (↑(i + 1) : Int)) from (Sub.of_wrap (by omega) (by omega) (by omega))), kp (show ∀ (x : List AV), x ∈ ys → AV.idsInL [] x = true from (by omega))] (others 35 [0, 2, 17, 18, 19]) 4 h (by kernel_rfl)

theorem wr_step2 (xs ys : List (List AV)) (N M g g' : Nat) (n0 : Int) (s0 : ByteArray) (l : List CV) (i : Nat) (n : Int) (s : ByteArray) (m : List CV) (hi : i < l.length) (hl : l.length ≤ 9223372036854775807) (hx : l[i]? = some (.mk 2 n s m)) (hv : CallC P G 89 [.own 0 g 0 N, vmk 2 n s m] [.arr g 1 false xs] (.ret (.own 0 g' 0 M)) [.arr g' 1 false ys]) (ex : AEx) (s' : St) (h : (((0 : Int) ≤ CV.k (CV.mk 2 n s m) ∧ CV.k (CV.mk 2 n s m) < (4 : Int)) ∧ ((∀ (x : List AV), x ∈ ys → AV.idsInL [] x = true) ∧ ((∀ (x : List AV), x ∈ xs → AV.idsInL [] x = true) ∧ RunL P G none 3 (loopAt P 90 0) { env := slots 35 [(0, AV.own 0 g' 0 M), (2, AV.ptr 2 0), (17, AV.sl 4 false (encL l)), (18, int (↑(List.length l) : Int)), (19, int (↑(i + 1) : Int))], H := [AObj.arr g' 1 false ys, AObj.box [AV.lit Value.nilFunc, AV.lit (Value.func (Fn.func 86) { toList := [] } { toList := [] }), AV.lit (Value.func (Fn.func 89) { toList := [] } { toList := [] }), AV.fn (Fn.func 90) [] [AV.ptr 2 0]], AObj.box [AV.ptr 1 0], AObj.box [int 3, int n0, str s0, AV.sl 4 false (encL l)]] } ex s')))) : RunL P G none 3 (loopAt P 90 0) (wrSt xs N g n0 s0 l i) ex s' := by
  obtain ⟨o2, h⟩ := h
  obtain ⟨o3, h⟩ := h
  obtain ⟨o4, h⟩ := h
  exact loop_next [kt (show decide ((↑i : Int) < (↑(List.length l) : Int)) = true from (decide_eq_true (by omega))), ko (Orc.elem (enc (CV.mk 2 n s m))), kp (show (0 : Int) ≤ (↑i : Int) ∧ (encL l)[Int.toNat (↑i : Int)]? = some (enc (CV.mk 2 n s m)) from (by rw [Go.Cdc.encL_map]; exact el_nat hx)), kp o2, kc [0] (@hv ), kp o3, kp o4, kv 33 (show Am.Sub (int (IntKind.wrap IntKind.i64 ((↑i : Int) + 1))) (int (↑(i + 1) : Int)) from (Sub.of_wrap (by omega) (by omega) (by omega))), kp (show ∀ (x : List AV), x ∈ ys → AV.idsInL [] x = true from (by omega))] (others 35 [0, 2, 17, 18, 19]) 4 h (by kernel_rfl)

theorem wr_step3 (xs ys : List (List AV)) (N M g g' : Nat) (n0 : Int) (s0 : ByteArray) (l : List CV) (i : Nat) (n : Int) (s : ByteArray) (m : List CV) (hi : i < l.length) (hl : l.length ≤ 9223372036854775807) (hx : l[i]? = some (.mk 3 n s m)) (hv : CallC P G 90 [.own 0 g 0 N, vmk 3 n s m, .ptr 2 0] (.arr g 1 false xs :: kinds 1 2) (.ret (.own 0 g' 0 M)) (.arr g' 1 false ys :: kinds 1 2)) (ex : AEx) (s' : St) (h : (((0 : Int) ≤ CV.k (CV.mk 3 n s m) ∧ CV.k (CV.mk 3 n s m) < (4 : Int)) ∧ ((∀ (x : List AV), x ∈ ys → AV.idsInL [] x = true) ∧ ((∀ (x : List AV), x ∈ xs → AV.idsInL [] x = true) ∧ RunL P G none 3 (loopAt P 90 0) { env := slots 35 [(0, AV.own 0 g' 0 M), (2, AV.ptr 2 0), (17, AV.sl 4 false (encL l)), (18, int (↑(List.length l) : Int)), (19, int (↑(i + 1) : Int))], H := [AObj.arr g' 1 false ys, AObj.box [AV.lit Value.nilFunc, AV.lit (Value.func (Fn.func 86) { toList := [] } { toList := [] }), AV.lit (Value.func (Fn.func 89) { toList := [] } { toList := [] }), AV.fn (Fn.func 90) [] [AV.ptr 2 0]], AObj.box [AV.ptr 1 0], AObj.box [int 3, int n0, str s0, AV.sl 4 false (encL l)]] } ex s')))) : RunL P G none 3 (loopAt P 90 0) (wrSt xs N g n0 s0 l i) ex s' := by
  obtain ⟨o2, h⟩ := h
  obtain ⟨o3, h⟩ := h
  obtain ⟨o4, h⟩ := h
  exact loop_next [kt (show decide ((↑i : Int) < (↑(List.length l) : Int)) = true from (decide_eq_true (by omega))), ko (Orc.elem (enc (CV.mk 3 n s m))), kp (show (0 : Int) ≤ (↑i : Int) ∧ (encL l)[Int.toNat (↑i : Int)]? = some (enc (CV.mk 3 n s m)) from (by rw [Go.Cdc.encL_map]; exact el_nat hx)), kp o2, kc [0, 1, 2] (@hv ), kp o3, kp o4, kv 33 (show Am.Sub (int (IntKind.wrap IntKind.i64 ((↑i : Int) + 1))) (int (↑(i + 1) : Int)) from (Sub.of_wrap (by omega) (by omega) (by omega))), kp (show ∀ (x : List AV), x ∈ ys → AV.idsInL [] x = true from (by omega))] (others 35 [0, 2, 17, 18, 19]) 4 h (by kernel_rfl)

theorem w3_own (a b : List UInt8) (g g' : Nat) (n : Int) (s : ByteArray) (l : List CV) (hs : l.length ≤ 10000000) (hl : a.length ≤ 10000000) (hL : RunL P G none 3 (loopAt P 90 0) (wrSt (bys a ++ [[.lit (.int .u8 3)]] ++ bys (num (l.length % 18446744073709551616))) (a.length + 1 + (num (l.length % 18446744073709551616)).length) (g + 1 + (num (l.length % 18446744073709551616)).length) n s l 0) (.exit 0) { env := slots 35 [(0, .own 0 g' 0 b.length)], H := .arr g' 1 false (bys b) :: (kinds 1 2 ++ [.box [int 3, int n, str s, .sl 4 false (encL l)]]) }) (h : True) : CallC P G 90 [AV.own 0 g 0 (List.length a), vmk 3 n s l, AV.ptr 2 0] (AObj.arr g 1 false (bys a) :: kinds 1 2) (AOut.ret (AV.own 0 g' 0 (List.length b))) (AObj.arr g' 1 false (bys b) :: kinds 1 2) := by
  have hz3 : Am.Sub (int (↑(List.length (encL l)) : Int)) (int (↑(List.length l) : Int)) := (Sub.of_eq (by simp only [Go.Cdc.encL_length]))
  have _ := h
  exact callC_of [kp (show g = g from (rfl)), kp (show List.length a = List.length (bys a) from ((Go.Cdc.bys_length _).symm)), kp (show (List.length a + 1) * 1 ≤ 140737488355328 from (by omega)), kv 13 hz3, kc [0] (@Go.Cdc.numeral_n (bys a ++ [[AV.lit (Value.int IntKind.u8 3)]]) (g + 1) (List.length l % 18446744073709551616) (List.length a + 1) (by simp only [List.length_append, List.length_cons, List.length_nil, List.length_map, Go.Cdc.bys_length, Go.Cdc.bys_ids, Go.Cdc.bys_pure, Go.Cdc.encL_length] <;> omega) (by omega) (by simp only [List.length_append, List.length_cons, List.length_nil, List.length_map, Go.Cdc.bys_length, Go.Cdc.bys_ids, Go.Cdc.bys_pure, Go.Cdc.encL_length] <;> omega) (by exact (Am.allm_append (Go.Cdc.bys_ids _) (Am.allm_cons rfl Am.allm_nil)))), kp (show ∀ (x : List AV), x ∈ bys a ++ [[AV.lit (Value.int IntKind.u8 3)]] ++ bys (num (List.length l % 18446744073709551616)) → AV.idsInL [] x = true from (by exact (Am.allm_append (Am.allm_append (Go.Cdc.bys_ids _) (Am.allm_cons rfl Am.allm_nil)) (Go.Cdc.bys_ids _)))), kp (show ∀ (x : List AV), x ∈ bys a ++ chunks (TypeInfo.size (Tables.types (Program.toTables P))[5]) 1 (splice (zerosA (List.map AV.lit (Array.toList (Value.cells (Value.int IntKind.u8 0)))) (1 * TypeInfo.size (Tables.types (Program.toTables P))[5])) (0 * TypeInfo.size (Tables.types (Program.toTables P))[5]) [AV.lit (Value.int IntKind.u8 3)]) → AV.idsInL [] x = true from (by exact (Am.allm_append (Go.Cdc.bys_ids _) (Am.allm_cons rfl Am.allm_nil)))), kv 18 hz3, kl [1, 3, 4, 5, 6, 7, 8, 9, 10, 11, 12, 13, 14, 15, 16, 20, 21, 22, 23, 24, 25, 26, 27, 28, 29, 30, 31, 32, 33, 34] 4 (@hL ), kp (show ∀ (x : List AV), x ∈ bys b → AV.idsInL [] x = true from (Go.Cdc.bys_ids _))] (by kernel_rfl)

def wzSt (xs : List (List AV)) (N g : Nat) (n0 : Int) (s0 : ByteArray) (l : List CV) (i : Nat) : St := { env := slots 35 [(0, .own 3 g 0 N), (2, .ptr 1 0), (17, .sl 4 false (encL l)), (18, int l.length), (19, int i)], H := kinds 0 1 ++ [.box [int 3, int n0, str s0, .sl 4 false (encL l)], .arr g 1 false xs] }

theorem wz_end (xs : List (List AV)) (N g : Nat) (n0 : Int) (s0 : ByteArray) (l : List CV) (i : Nat) (hi : l.length ≤ i) (h : True) : RunL P G none 2 (loopAt P 90 0) (wzSt xs N g n0 s0 l i) (AEx.exit 0) { env := slots 35 [(0, AV.own 3 g 0 N)], H := kinds 0 1 ++ [AObj.box [int 3, int n0, str s0, AV.sl 4 false (encL l)], AObj.arr g 1 false xs] } := by
  have _ := h
  exact loop_exit [kf (show decide ((↑i : Int) < (↑(List.length l) : Int)) = false from (decide_eq_false (by omega)))] (others 35 [0]) 4 (by kernel_rfl)

theorem wz_step1 (xs ys : List (List AV)) (N M g g' : Nat) (n0 : Int) (s0 : ByteArray) (l : List CV) (i : Nat) (n : Int) (s : ByteArray) (m : List CV) (hi : i < l.length) (hl : l.length ≤ 9223372036854775807) (hx : l[i]? = some (.mk 1 n s m)) (hv : CallC P G 86 [.own 0 g 0 N, vmk 1 n s m] [.arr g 1 false xs] (.ret (.own 0 g' 0 M)) [.arr g' 1 false ys]) (ex : AEx) (s' : St) (h : (((0 : Int) ≤ CV.k (CV.mk 1 n s m) ∧ CV.k (CV.mk 1 n s m) < (4 : Int)) ∧ ((∀ (x : List AV), x ∈ ys → AV.idsInL [] x = true) ∧ ((∀ (x : List AV), x ∈ xs → AV.idsInL [] x = true) ∧ RunL P G none 2 (loopAt P 90 0) { env := slots 35 [(0, AV.own 3 g' 0 M), (2, AV.ptr 1 0), (17, AV.sl 4 false (encL l)), (18, int (↑(List.length l) : Int)), (19, int (↑(i + 1) : Int))], H := [AObj.box [AV.lit Value.nilFunc, AV.lit (Value.func (Fn.func 86) { toList := [] } { toList := [] }), AV.lit (Value.func (Fn.func 89) { toList := [] } { toList := [] }), AV.fn (Fn.func 90) [] [AV.ptr 1 0]], AObj.box [AV.ptr 0 0], AObj.box [int 3, int n0, str s0, AV.sl 4 false (encL l)], AObj.arr g' 1 false ys] } ex s')))) : RunL P G none 2 (loopAt P 90 0) (wzSt xs N g n0 s0 l i) ex s' := by
  obtain ⟨o2, h⟩ := h
  obtain ⟨o3, h⟩ := h
  obtain ⟨o4, h⟩ := h
  exact loop_next [kt (show decide ((↑i : Int) < (↑(List.length l) : Int)) = true from (decide_eq_true (by omega))), ko (Orc.elem (enc (CV.mk 1 n s m))), kp (show (0 : Int) ≤ (↑i : Int) ∧ (encL l)[Int.toNat (↑i : Int)]? = some (enc (CV.mk 1 n s m)) from (by rw [Go.Cdc.encL_map]; exact el_nat hx)), kp o2, kc [3] (@hv ), kp o3, kp o4, kv 33 (show Am.Sub (int (IntKind.wrap IntKind.i64 ((↑i : Int) + 1))) (int (↑(i + 1) : Int)) from (Sub.of_wrap (by omega) (by omega) (by omega))), kp (show ∀ (x : List AV), x ∈ ys → AV.idsInL [] x = true from (by omega))] (others 35 [0, 2, 17, 18, 19]) 4 h (by kernel_rfl)

theorem wz_step2 (xs ys : List (List AV)) (N M g g' : Nat) (n0 : Int) (s0 : ByteArray) (l : List CV) (i : Nat) (n : Int) (s : ByteArray) (m : List CV) (hi : i < l.length) (hl : l.length ≤ 9223372036854775807) (hx : l[i]? = some (.mk 2 n s m)) (hv : CallC P G 89 [.own 0 g 0 N, vmk 2 n s m] [.arr g 1 false xs] (.ret (.own 0 g' 0 M)) [.arr g' 1 false ys]) (ex : AEx) (s' : St) (h : (((0 : Int) ≤ CV.k (CV.mk 2 n s m) ∧ CV.k (CV.mk 2 n s m) < (4 : Int)) ∧ ((∀ (x : List AV), x ∈ ys → AV.idsInL [] x = true) ∧ ((∀ (x : List AV), x ∈ xs → AV.idsInL [] x = true) ∧ RunL P G none 2 (loopAt P 90 0) { env := slots 35 [(0, AV.own 3 g' 0 M), (2, AV.ptr 1 0), (17, AV.sl 4 false (encL l)), (18, int (↑(List.length l) : Int)), (19, int (↑(i + 1) : Int))], H := [AObj.box [AV.lit Value.nilFunc, AV.lit (Value.func (Fn.func 86) { toList := [] } { toList := [] }), AV.lit (Value.func (Fn.func 89) { toList := [] } { toList := [] }), AV.fn (Fn.func 90) [] [AV.ptr 1 0]], AObj.box [AV.ptr 0 0], AObj.box [int 3, int n0, str s0, AV.sl 4 false (encL l)], AObj.arr g' 1 false ys] } ex s')))) : RunL P G none 2 (loopAt P 90 0) (wzSt xs N g n0 s0 l i) ex s' := by
  obtain ⟨o2, h⟩ := h
  obtain ⟨o3, h⟩ := h
  obtain ⟨o4, h⟩ := h
  exact loop_next [kt (show decide ((↑i : Int) < (↑(List.length l) : Int)) = true from (decide_eq_true (by omega))), ko (Orc.elem (enc (CV.mk 2 n s m))), kp (show (0 : Int) ≤ (↑i : Int) ∧ (encL l)[Int.toNat (↑i : Int)]? = some (enc (CV.mk 2 n s m)) from (by rw [Go.Cdc.encL_map]; exact el_nat hx)), kp o2, kc [3] (@hv ), kp o3, kp o4, kv 33 (show Am.Sub (int (IntKind.wrap IntKind.i64 ((↑i : Int) + 1))) (int (↑(i + 1) : Int)) from (Sub.of_wrap (by omega) (by omega) (by omega))), kp (show ∀ (x : List AV), x ∈ ys → AV.idsInL [] x = true from (by omega))] (others 35 [0, 2, 17, 18, 19]) 4 h (by kernel_rfl)

theorem wz_step3 (xs ys : List (List AV)) (N M g g' : Nat) (n0 : Int) (s0 : ByteArray) (l : List CV) (i : Nat) (n : Int) (s : ByteArray) (m : List CV) (hi : i < l.length) (hl : l.length ≤ 9223372036854775807) (hx : l[i]? = some (.mk 3 n s m)) (hv : CallC P G 90 [.own 0 g 0 N, vmk 3 n s m, .ptr 2 0] (.arr g 1 false xs :: kinds 1 2) (.ret (.own 0 g' 0 M)) (.arr g' 1 false ys :: kinds 1 2)) (ex : AEx) (s' : St) (h : (((0 : Int) ≤ CV.k (CV.mk 3 n s m) ∧ CV.k (CV.mk 3 n s m) < (4 : Int)) ∧ ((∀ (x : List AV), x ∈ ys → AV.idsInL [] x = true) ∧ ((∀ (x : List AV), x ∈ xs → AV.idsInL [] x = true) ∧ RunL P G none 2 (loopAt P 90 0) { env := slots 35 [(0, AV.own 3 g' 0 M), (2, AV.ptr 1 0), (17, AV.sl 4 false (encL l)), (18, int (↑(List.length l) : Int)), (19, int (↑(i + 1) : Int))], H := [AObj.box [AV.lit Value.nilFunc, AV.lit (Value.func (Fn.func 86) { toList := [] } { toList := [] }), AV.lit (Value.func (Fn.func 89) { toList := [] } { toList := [] }), AV.fn (Fn.func 90) [] [AV.ptr 1 0]], AObj.box [AV.ptr 0 0], AObj.box [int 3, int n0, str s0, AV.sl 4 false (encL l)], AObj.arr g' 1 false ys] } ex s')))) : RunL P G none 2 (loopAt P 90 0) (wzSt xs N g n0 s0 l i) ex s' := by
  obtain ⟨o2, h⟩ := h
  obtain ⟨o3, h⟩ := h
  obtain ⟨o4, h⟩ := h
  exact loop_next [kt (show decide ((↑i : Int) < (↑(List.length l) : Int)) = true from (decide_eq_true (by omega))), ko (Orc.elem (enc (CV.mk 3 n s m))), kp (show (0 : Int) ≤ (↑i : Int) ∧ (encL l)[Int.toNat (↑i : Int)]? = some (enc (CV.mk 3 n s m)) from (by rw [Go.Cdc.encL_map]; exact el_nat hx)), kp o2, kc [3, 0, 1] (@hv ), kp o3, kp o4, kv 33 (show Am.Sub (int (IntKind.wrap IntKind.i64 ((↑i : Int) + 1))) (int (↑(i + 1) : Int)) from (Sub.of_wrap (by omega) (by omega) (by omega))), kp (show ∀ (x : List AV), x ∈ ys → AV.idsInL [] x = true from (by omega))] (others 35 [0, 2, 17, 18, 19]) 4 h (by kernel_rfl)

theorem w3_nil (b : List UInt8) (g' : Nat) (n : Int) (s : ByteArray) (l : List CV) (hs : l.length ≤ 10000000) (hL : RunL P G none 2 (loopAt P 90 0) (wzSt ([.lit (.int .u8 3)] :: bys (num (l.length % 18446744073709551616))) (1 + (num (l.length % 18446744073709551616)).length) (0 + (num (l.length % 18446744073709551616)).length) n s l 0) (.exit 0) { env := slots 35 [(0, .own 3 g' 0 b.length)], H := kinds 0 1 ++ [.box [int 3, int n, str s, .sl 4 false (encL l)], .arr g' 1 false (bys b)] }) (h : True) : CallC P G 90 [nilS, vmk 3 n s l, AV.ptr 1 0] (kinds 0 1) (AOut.ret (byt b)) (kinds 0 1) := by
  have hz2 : Am.Sub (int (↑(List.length (encL l)) : Int)) (int (↑(List.length l) : Int)) := (Sub.of_eq (by simp only [Go.Cdc.encL_length]))
  have _ := h
  exact callC_of [kp (show [[AV.lit (Value.int IntKind.u8 3)]] ≠ [] from (by simp)), kp (show 1 ≤ 140737488355328 from (by omega)), kv 13 hz2, kc [3] (@Go.Cdc.numeral_n ([[AV.lit (Value.int IntKind.u8 3)]]) (0) (List.length l % 18446744073709551616) (1) (rfl) (by omega) (by simp only [List.length_append, List.length_cons, List.length_nil, List.length_map, Go.Cdc.bys_length, Go.Cdc.bys_ids, Go.Cdc.bys_pure, Go.Cdc.encL_length] <;> omega) (by exact (Am.allm_cons rfl Am.allm_nil))), kp (show ∀ (x : List AV), x ∈ [[AV.lit (Value.int IntKind.u8 3)]] ++ bys (num (List.length l % 18446744073709551616)) → AV.idsInL [] x = true from (by exact (Am.allm_append (Am.allm_cons rfl Am.allm_nil) (Go.Cdc.bys_ids _)))), kp (show ∀ (x : List AV), x ∈ chunks (TypeInfo.size (Tables.types (Program.toTables P))[5]) 1 (splice (zerosA (List.map AV.lit (Array.toList (Value.cells (Value.int IntKind.u8 0)))) (1 * TypeInfo.size (Tables.types (Program.toTables P))[5])) (0 * TypeInfo.size (Tables.types (Program.toTables P))[5]) [AV.lit (Value.int IntKind.u8 3)]) → AV.idsInL [] x = true from (by exact (Am.allm_cons rfl Am.allm_nil))), kv 18 hz2, kl [1, 3, 4, 5, 6, 7, 8, 9, 10, 11, 12, 13, 14, 15, 16, 20, 21, 22, 23, 24, 25, 26, 27, 28, 29, 30, 31, 32, 33, 34] 4 (@hL ), ko (Orc.frz (bys b)), kp (show g' = g' from (rfl)), kp (show List.take (List.length b) (List.drop 0 (bys b)) = bys b from (by rw [List.drop_zero, List.take_of_length_le (by simp only [List.length_append, List.length_cons, List.length_nil, List.length_map, Go.Cdc.bys_length, Go.Cdc.bys_ids, Go.Cdc.bys_pure, Go.Cdc.encL_length] <;> omega)])), kp (show List.length (bys b) = List.length b from (Go.Cdc.bys_length _)), kp (show ∀ (c : List AV), c ∈ bys b → List.all c AV.pureB = true from (Go.Cdc.bys_pure _))] (by kernel_rfl)

theorem enc_1 (n : Int) (s : ByteArray) (l : List CV) (b : List UInt8) (hv : CallC P G 62 [vmk 1 n s l] [] (.ret (int 0)) []) (hw : CallC P G 86 [nilS, vmk 1 n s l] [] (.ret (byt b)) []) (h : True) : CallC P G 30 [vmk 1 n s l] [] (AOut.ret (AV.tup [byt b, int 0])) [] := by
  have _ := h
  exact callC_of [kc [] (@hv ), kf (Eq.refl false), kc [] (@Go.Cdc.nw_w (trivial)), kp (show (0 : Int) ≤ (1 : Int) ∧ (1 : Int) < (4 : Int) from (by omega)), kc [] (@hw )] (by kernel_rfl)

theorem enc_2 (n : Int) (s : ByteArray) (l : List CV) (b : List UInt8) (hv : CallC P G 62 [vmk 2 n s l] [] (.ret (int 0)) []) (hw : CallC P G 89 [nilS, vmk 2 n s l] [] (.ret (byt b)) []) (h : True) : CallC P G 30 [vmk 2 n s l] [] (AOut.ret (AV.tup [byt b, int 0])) [] := by
  have _ := h
  exact callC_of [kc [] (@hv ), kf (Eq.refl false), kc [] (@Go.Cdc.nw_w (trivial)), kp (show (0 : Int) ≤ (2 : Int) ∧ (2 : Int) < (4 : Int) from (by omega)), kc [] (@hw )] (by kernel_rfl)

theorem enc_3 (n : Int) (s : ByteArray) (l : List CV) (b : List UInt8) (hv : CallC P G 62 [vmk 3 n s l] [] (.ret (int 0)) []) (hw : CallC P G 90 [nilS, vmk 3 n s l, .ptr 1 0] (kinds 0 1) (.ret (byt b)) (kinds 0 1)) (h : True) : CallC P G 30 [vmk 3 n s l] [] (AOut.ret (AV.tup [byt b, int 0])) [] := by
  have _ := h
  exact callC_of [kc [] (@hv ), kf (Eq.refl false), kc [] (@Go.Cdc.nw_w (trivial)), kp (show (0 : Int) ≤ (3 : Int) ∧ (3 : Int) < (4 : Int) from (by omega)), kc [1, 2] (@hw )] (by kernel_rfl)

end Go.Cdc

/- CODEC, 8: what the program writes. -/
namespace Go.Cdc
set_option maxRecDepth 100000
set_option linter.unusedSimpArgs false
set_option linter.unusedVariables false
open Go Go.Am Go.Proofs Go.Seat

theorem encBL_cons (v : CV) (l : List CV) : encBL (v :: l) = encB v ++ encBL l := rfl
theorem encB_pos (v : CV) : 1 ≤ (encB v).length := by
  cases v; simp only [encB]; split
  · simp
  · split <;> simp
theorem encBL_len : ∀ l : List CV, l.length ≤ (encBL l).length
  | [] => by simp [encBL]
  | v :: l => by
    have := encBL_len l; have := encB_pos v
    simp only [encBL, List.length_append, List.length_cons]; omega
theorem own_eq {i g g' n n' : Nat} (hg : g = g') (hn : n = n') : Sub (.own i g 0 n) (.own i g' 0 n') := .of_eq (by rw [hg, hn])
theorem arr_eq {g g' : Nat} {xs ys : List (List AV)} (hg : g = g') (hn : xs = ys) : [AObj.arr g 1 false xs] = [AObj.arr g' 1 false ys] := by rw [hg, hn]
theorem bys_cons (c : UInt8) (l : List UInt8) : bys (c :: l) = [AV.lit (.int .u8 c.toNat)] :: bys l := rfl
theorem bys_app (a b : List UInt8) : bys (a ++ b) = bys a ++ bys b := (bys_append a b).symm

/-- The writers' contract. -/
def WrC (v : CV) : Prop := ∀ (a : List UInt8) (g : Nat), a.length + (encB v).length ≤ 10000000 →
  (v.k = 1 → CallC P G 86 [.own 0 g 0 a.length, val v] [.arr g 1 false (bys a)] (.ret (.own 0 (g + gens v) 0 (a ++ encB v).length)) [.arr (g + gens v) 1 false (bys (a ++ encB v))]) ∧
  (v.k = 2 → CallC P G 89 [.own 0 g 0 a.length, val v] [.arr g 1 false (bys a)] (.ret (.own 0 (g + gens v) 0 (a ++ encB v).length)) [.arr (g + gens v) 1 false (bys (a ++ encB v))]) ∧
  (v.k = 3 → CallC P G 90 [.own 0 g 0 a.length, val v, .ptr 2 0] (.arr g 1 false (bys a) :: kinds 1 2) (.ret (.own 0 (g + gens v) 0 (a ++ encB v).length)) (.arr (g + gens v) 1 false (bys (a ++ encB v)) :: kinds 1 2))

theorem wf_k {v : CV} (h : wf v = true) : v.k = 1 ∨ v.k = 2 ∨ v.k = 3 := by
  cases v with
  | mk k n s l =>
    simp only [CV.k]
    by_cases h1 : k = 1
    · exact .inl h1
    · by_cases h2 : k = 2
      · exact .inr (.inl h2)
      · by_cases h3 : k = 3
        · exact .inr (.inr h3)
        · simp [wf, h1, h2, h3] at h
theorem wfL_mem : ∀ {l : List CV}, wfL l = true → ∀ x ∈ l, wf x = true
  | [], _, x, hx => by cases hx
  | v :: l, h, x, hx => by
    simp only [wfL, Bool.and_eq_true] at h
    rcases List.mem_cons.1 hx with rfl | hx
    · exact h.1
    · exact wfL_mem h.2 x hx

theorem wr_loop (n0 : Int) (s0 : ByteArray) (l : List CV) (hl : l.length ≤ 9223372036854775807) (hw : ∀ x ∈ l, wf x = true) (hv : ∀ x ∈ l, WrC x) : ∀ (m i : Nat) (a : List UInt8) (g : Nat), l.length - i = m → i ≤ l.length → a.length + (encBL (l.drop i)).length ≤ 10000000 →
    RunL P G none 3 (loopAt P 90 0) (wrSt (bys a) a.length g n0 s0 l i) (.exit 0) { env := slots 35 [(0, .own 0 (g + gensL (l.drop i)) 0 (a ++ encBL (l.drop i)).length)], H := .arr (g + gensL (l.drop i)) 1 false (bys (a ++ encBL (l.drop i))) :: (kinds 1 2 ++ [.box [int 3, int n0, str s0, .sl 4 false (encL l)]]) } := by
  intro m
  induction m with
  | zero =>
    intro i a g hm hi hlen
    rw [List.drop_of_length_le (by omega)]
    simp only [encBL, gensL, Nat.add_zero, List.append_nil]
    exact wr_end (bys a) a.length g n0 s0 l i (by omega) trivial
  | succ m ih =>
    intro i a g hm hi hlen
    have hlt : i < l.length := by omega
    have e := List.drop_eq_getElem_cons hlt
    have hx : l[i]? = some l[i] := List.getElem?_eq_getElem hlt
    have hwx := hw _ (List.getElem_mem hlt)
    have hvx := hv _ (List.getElem_mem hlt)
    rw [e] at hlen ⊢
    simp only [encBL, gensL, List.length_append] at hlen ⊢
    have hc := hvx a g (by omega)
    have hn := ih (i + 1) (a ++ encB l[i]) (g + gens l[i]) (by omega) (by omega) (by rw [List.length_append]; omega)
    rw [List.append_assoc, Nat.add_assoc] at hn
    simp only [List.length_append] at hn hc
    generalize l[i] = x at *
    cases x with
    | mk k n s q =>
      rcases wf_k hwx with h | h | h
      · simp only [CV.k] at h
        subst h
        exact wr_step1 _ _ _ _ _ _ n0 s0 l i n s q hlt hl hx (hc.1 rfl) _ _ ⟨⟨by simp only [CV.k]; decide, by simp only [CV.k]; decide⟩, bys_ids _, bys_ids _, hn⟩
      · simp only [CV.k] at h
        subst h
        exact wr_step2 _ _ _ _ _ _ n0 s0 l i n s q hlt hl hx (hc.2.1 rfl) _ _ ⟨⟨by simp only [CV.k]; decide, by simp only [CV.k]; decide⟩, bys_ids _, bys_ids _, hn⟩
      · simp only [CV.k] at h
        subst h
        exact wr_step3 _ _ _ _ _ _ n0 s0 l i n s q hlt hl hx (hc.2.2 rfl) _ _ ⟨⟨by simp only [CV.k]; decide, by simp only [CV.k]; decide⟩, bys_ids _, bys_ids _, hn⟩

theorem wz_loop (n0 : Int) (s0 : ByteArray) (l : List CV) (hl : l.length ≤ 9223372036854775807) (hw : ∀ x ∈ l, wf x = true) (hv : ∀ x ∈ l, WrC x) : ∀ (m i : Nat) (a : List UInt8) (g : Nat), l.length - i = m → i ≤ l.length → a.length + (encBL (l.drop i)).length ≤ 10000000 →
    RunL P G none 2 (loopAt P 90 0) (wzSt (bys a) a.length g n0 s0 l i) (.exit 0) { env := slots 35 [(0, .own 3 (g + gensL (l.drop i)) 0 (a ++ encBL (l.drop i)).length)], H := kinds 0 1 ++ [.box [int 3, int n0, str s0, .sl 4 false (encL l)], .arr (g + gensL (l.drop i)) 1 false (bys (a ++ encBL (l.drop i)))] } := by
  intro m
  induction m with
  | zero =>
    intro i a g hm hi hlen
    rw [List.drop_of_length_le (by omega)]
    simp only [encBL, gensL, Nat.add_zero, List.append_nil]
    exact wz_end (bys a) a.length g n0 s0 l i (by omega) trivial
  | succ m ih =>
    intro i a g hm hi hlen
    have hlt : i < l.length := by omega
    have e := List.drop_eq_getElem_cons hlt
    have hx : l[i]? = some l[i] := List.getElem?_eq_getElem hlt
    have hwx := hw _ (List.getElem_mem hlt)
    have hvx := hv _ (List.getElem_mem hlt)
    rw [e] at hlen ⊢
    simp only [encBL, gensL, List.length_append] at hlen ⊢
    have hc := hvx a g (by omega)
    have hn := ih (i + 1) (a ++ encB l[i]) (g + gens l[i]) (by omega) (by omega) (by rw [List.length_append]; omega)
    rw [List.append_assoc, Nat.add_assoc] at hn
    simp only [List.length_append] at hn hc
    generalize l[i] = x at *
    cases x with
    | mk k n s q =>
      rcases wf_k hwx with h | h | h
      · simp only [CV.k] at h
        subst h
        exact wz_step1 _ _ _ _ _ _ n0 s0 l i n s q hlt hl hx (hc.1 rfl) _ _ ⟨⟨by simp only [CV.k]; decide, by simp only [CV.k]; decide⟩, bys_ids _, bys_ids _, hn⟩
      · simp only [CV.k] at h
        subst h
        exact wz_step2 _ _ _ _ _ _ n0 s0 l i n s q hlt hl hx (hc.2.1 rfl) _ _ ⟨⟨by simp only [CV.k]; decide, by simp only [CV.k]; decide⟩, bys_ids _, bys_ids _, hn⟩
      · simp only [CV.k] at h
        subst h
        exact wz_step3 _ _ _ _ _ _ n0 s0 l i n s q hlt hl hx (hc.2.2 rfl) _ _ ⟨⟨by simp only [CV.k]; decide, by simp only [CV.k]; decide⟩, bys_ids _, bys_ids _, hn⟩

theorem u64mod {n : Nat} (h : n ≤ 10000000) : n % 18446744073709551616 = n := Nat.mod_eq_of_lt (by omega)

theorem wrC_all (v : CV) : Okv v → wf v = true → WrC v := by
  refine CV.ind (p := fun v => Okv v → wf v = true → WrC v) (fun k n s l ih hok hwf => ?_) v
  cases hok with
  | mk _ _ _ _ hn hs hl hall =>
    intro a g hlen
    refine ⟨fun hk => ?_, fun hk => ?_, fun hk => ?_⟩
    · simp only [CV.k] at hk
      subst hk
      have e1 : encB (.mk 1 n s l) = 1 :: num (uns n) := by simp [encB]
      have e2 : gens (.mk 1 n s l) = 1 + (num (uns n)).length := by simp [gens]
      rw [e1] at hlen ⊢
      rw [e2]
      refine w1_own a g n s l hn (uns_lt hn) (by omega) ⟨own_eq (by omega) (by simp only [List.length_append, List.length_cons]; omega), arr_eq (by omega) ?_⟩
      rw [bys_app, bys_cons, List.append_assoc]; rfl
    · simp only [CV.k] at hk
      subst hk
      have e1 : encB (.mk 2 n s l) = 2 :: (num s.size ++ s.data.toList) := by simp [encB]
      have e2 : gens (.mk 2 n s l) = 2 + (num s.size).length := by simp [gens]
      rw [e1] at hlen ⊢
      rw [e2]
      simp only [List.length_append, List.length_cons, bdata_length] at hlen
      have em := u64mod (n := s.size) (by omega)
      refine w2_own a g n s l (by omega) (by omega) ⟨?_, own_eq ?_ ?_, arr_eq ?_ ?_⟩ <;> rw [em]
      · simp only [List.length_map, bdata_length]; omega
      · omega
      · simp only [List.length_map, bdata_length, List.length_append, List.length_cons]; omega
      · omega
      · rw [bys_app, bys_cons, bys_app]; simp only [List.append_assoc]; rfl
    · simp only [CV.k] at hk
      subst hk
      have e1 : encB (.mk 3 n s l) = 3 :: (num l.length ++ encBL l) := by simp [encB]
      have e2 : gens (.mk 3 n s l) = 1 + (num l.length).length + gensL l := by simp [gens]
      have ew : wf (.mk 3 n s l) = (decide (n = 0) && decide (s = .empty) && wfL l) := by simp [wf]
      rw [ew] at hwf
      simp only [Bool.and_eq_true] at hwf
      rw [e1] at hlen ⊢
      rw [e2]
      simp only [List.length_append, List.length_cons] at hlen
      have hll := encBL_len l
      have em := u64mod (n := l.length) (by omega)
      have hL := wr_loop n s l hl (wfL_mem hwf.2) (fun x hx => ih x hx (hall x hx) (wfL_mem hwf.2 x hx)) l.length 0 (a ++ 3 :: num l.length) (g + 1 + (num l.length).length) (by omega) (by omega) (by rw [List.drop_zero]; simp only [List.length_append, List.length_cons]; omega)
      rw [List.drop_zero, List.append_assoc, List.cons_append] at hL
      have eg : g + (1 + (num l.length).length + gensL l) = g + 1 + (num l.length).length + gensL l := by omega
      rw [eg]
      refine w3_own a (a ++ 3 :: (num l.length ++ encBL l)) g _ n s l (by omega) (by omega) ?_ trivial
      rw [em]
      have e3 : bys a ++ [[AV.lit (.int .u8 3)]] ++ bys (num l.length) = bys (a ++ 3 :: num l.length) := by
        rw [bys_app, bys_cons, List.append_assoc]; rfl
      have e4 : a.length + 1 + (num l.length).length = (a ++ 3 :: num l.length).length := by simp only [List.length_append, List.length_cons]; omega
      rw [e3, e4]
      exact hL

theorem encode_ok (v : CV) (hok : Okv v) (hd : dp v ≤ 16) (hwf : wf v = true) (hlen : (encB v).length ≤ 10000000) : CallC P G 30 [val v] [] (.ret (.tup [byt (encB v), int 0])) [] := by
  have hc := check_c v hok (by omega)
  have e0 : chkE v = 0 := by simp only [chkE, hwf, if_true]; rw [if_neg (by omega)]
  rw [e0] at hc
  have hk := wf_k hwf
  cases v with
  | mk k n s l =>
    cases hok with
    | mk _ _ _ _ hn hs hl hall =>
      simp only [CV.k] at hk
      rcases hk with rfl | rfl | rfl
      · have e1 : encB (.mk 1 n s l) = 1 :: num (uns n) := by simp [encB]
        rw [e1]
        exact enc_1 n s l _ hc (w1_nil n s l hn (uns_lt hn) trivial) trivial
      · have e1 : encB (.mk 2 n s l) = 2 :: (num s.size ++ s.data.toList) := by simp [encB]
        rw [e1] at hlen ⊢
        simp only [List.length_append, List.length_cons, bdata_length] at hlen
        have em := u64mod (n := s.size) (by omega)
        refine enc_2 n s l _ hc (w2_nil n s l (by omega) ⟨?_, ?_⟩) trivial <;> rw [em]
        · simp only [List.length_map, bdata_length]; omega
        · rw [bys_cons, bys_app]; rfl
      · have e1 : encB (.mk 3 n s l) = 3 :: (num l.length ++ encBL l) := by simp [encB]
        have ew : wf (.mk 3 n s l) = (decide (n = 0) && decide (s = .empty) && wfL l) := by simp [wf]
        rw [ew] at hwf
        simp only [Bool.and_eq_true] at hwf
        rw [e1] at hlen ⊢
        simp only [List.length_append, List.length_cons] at hlen
        have hll := encBL_len l
        have em := u64mod (n := l.length) (by omega)
        have hL := wz_loop n s l hl (wfL_mem hwf.2) (fun x hx => wrC_all x (hall x hx) (wfL_mem hwf.2 x hx)) l.length 0 (3 :: num l.length) (0 + (num l.length).length) (by omega) (by omega) (by rw [List.drop_zero]; simp only [List.length_cons]; omega)
        rw [List.drop_zero, List.cons_append] at hL
        refine enc_3 n s l _ hc (w3_nil (3 :: (num l.length ++ encBL l)) (0 + (num l.length).length + gensL l) n s l (by omega) ?_ trivial) trivial
        rw [em]
        have e4 : 1 + (num l.length).length = (3 :: num l.length).length := by simp only [List.length_cons]; omega
        rw [e4]
        exact hL
end Go.Cdc

/- CODEC, 9: Same in both packages; the reference's Encode and Size. -/
namespace Go.Cdc
set_option maxRecDepth 100000
set_option linter.unusedSimpArgs false
set_option linter.unusedVariables false
open Go Go.Am Go.Proofs Go.Seat

end Go.Cdc

/- CODEC, 10: contracts of Same, and of the reference's encoder. -/
namespace Go.Cdc
set_option maxRecDepth 100000
set_option linter.unusedSimpArgs false
set_option linter.unusedVariables false
open Go Go.Am Go.Proofs Go.Seat

end Go.Cdc

/- CODEC, 11: the reference's reader: next, number. -/
namespace Go.Cdc
set_option maxRecDepth 100000
set_option linter.unusedSimpArgs false
set_option linter.unusedVariables false
open Go Go.Am Go.Proofs Go.Seat

end Go.Cdc

/- CODEC, 12: the reference's Value. -/
namespace Go.Cdc
set_option maxRecDepth 100000
set_option linter.unusedSimpArgs false
set_option linter.unusedVariables false
open Go Go.Am Go.Proofs Go.Seat

end Go.Cdc

/- CODEC, 2: the program's reader. -/
namespace Go.Cdc
set_option maxRecDepth 100000
set_option linter.unusedSimpArgs false
set_option linter.unusedVariables false
open Go Go.Am Go.Proofs Go.Seat

theorem numF_lt : ∀ (l : List UInt8) (u i : Nat), u < 2 ^ (7 * i) → i ≤ 9 → (numF l u i).2.1 < 18446744073709551616 ∧ (numF l u i).2.2.length ≤ l.length
  | [], u, i, hu, hi => ⟨by
      have : 2 ^ (7 * i) ≤ 2 ^ 63 := Nat.pow_le_pow_right (by decide) (by omega)
      have : (2 : Nat) ^ 63 < 18446744073709551616 := by decide
      show u < _; omega, Nat.le_refl _⟩
  | c :: r, u, i, hu, hi => by
    have h0 : u < 18446744073709551616 := by
      have : 2 ^ (7 * i) ≤ 2 ^ 63 := Nat.pow_le_pow_right (by decide) (by omega)
      have : (2 : Nat) ^ 63 < 18446744073709551616 := by decide
      omega
    simp only [numF]
    split
    · exact ⟨h0, by simp⟩
    · rename_i hn
      have hf := digit_fits (c := c.toNat) hu hi (by omega)
      split
      · exact ⟨hf.2, by simp⟩
      · rename_i hc
        have := numF_lt r (u + c.toNat % 128 * 2 ^ (7 * i)) (i + 1) hf.1 (by omega)
        exact ⟨this.1, by simp; omega⟩
theorem numU_lt (l : List UInt8) : numU l < 18446744073709551616 := (numF_lt l 0 0 (by simp) (by omega)).1
theorem numR_le (l : List UInt8) : (numR l).length ≤ l.length := (numF_lt l 0 0 (by simp) (by omega)).2

def lenOk (l : List UInt8) : Bool := numOk l && decide (numU l ≤ (numR l).length)

theorem length_w (l : List UInt8) (hl : l.length ≤ 1000000000) (hr : (numR l).length ≤ 1000000000) (hu : numU l < 18446744073709551616) (out : AOut) (h : ((((numOk l) = true) → ((((↑(numU l) : Int) ≤ (↑(List.length (numR l) % 18446744073709551616) : Int)) → AOut.ret (int (↑(numU l) : Int)) = out) ∧ ((¬(↑(numU l) : Int) ≤ (↑(List.length (numR l) % 18446744073709551616) : Int)) → AOut.pan (AV.ifc 33 (int 10)) = out))) ∧ (((numOk l) = false) → AOut.pan (AV.ifc 33 (int 10)) = out))) : CallC P G 80 [AV.ptr 0 0] (rdr l) out (rdr (numR l)) := by
  rcases Bool.eq_false_or_eq_true ((numOk l)) with c1 | c1
  · have h := h.1 c1
    have hz0 : CallC P G 79 [AV.ptr 0 0] [AObj.box [AV.sl 1 false (bys l)]] (AOut.ret (AV.lit (Value.int IntKind.u64 (↑(numU l) : Int)))) [AObj.box [AV.sl 1 false (bys (numR l))]] := (by have h0 := (@Go.Cdc.number_c (l) (by omega)); simp only [if_pos (show numOk l = true from c1)] at h0; exact h0)
    have hz1 : Am.Sub (int (↑(List.length (bys (numR l))) : Int)) (int (↑(List.length (numR l)) : Int)) := (Sub.of_eq (by simp only [Go.Cdc.bys_length]))
    by_cases c2 : ((↑(numU l) : Int) ≤ (↑(List.length (numR l) % 18446744073709551616) : Int))
    · have h := h.1 c2
      have e1 := h
      exact e1 ▸ ((show CallC P G 80 [AV.ptr 0 0] (rdr l) (AOut.ret (int (↑(numU l) : Int))) [AObj.box [AV.sl 1 false (bys (numR l))]] from callC_of [kc [0] hz0, kv 12 hz1, kc [0] (show CallC P G 58 [AV.ptr 0 0, Am.bool (decide ((↑(numU l) : Int) ≤ IntKind.wrap IntKind.u64 (↑(List.length (numR l)) : Int)))] [AObj.box [AV.sl 1 false (bys (numR l))]] (AOut.ret (AV.tup [])) [AObj.box [AV.sl 1 false (bys (numR l))]] from (by have h0 := (@Go.Cdc.want_c (AObj.box [AV.sl 1 false (bys (numR l))]) (decide ((↑(numU l) : Int) ≤ (↑(List.length (numR l) % 18446744073709551616) : Int)))); simp only [if_pos (show decide ((↑(numU l) : Int) ≤ (↑(List.length (numR l) % 18446744073709551616) : Int)) = true from decide_eq_true c2)] at h0; exact h0)), kv 17 (show Am.Sub (int (IntKind.wrap IntKind.i64 (↑(numU l) : Int))) (int (↑(numU l) : Int)) from (Sub.of_wrap (by omega) (by omega) rfl))] (by kernel_rfl)))
    · have h := h.2 c2
      have e1 := h
      exact e1 ▸ ((show CallC P G 80 [AV.ptr 0 0] (rdr l) (AOut.pan (AV.ifc 33 (int 10))) [AObj.box [AV.sl 1 false (bys (numR l))]] from callC_of [kc [0] hz0, kv 12 hz1, kc [0] (show CallC P G 58 [AV.ptr 0 0, Am.bool (decide ((↑(numU l) : Int) ≤ IntKind.wrap IntKind.u64 (↑(List.length (numR l)) : Int)))] [AObj.box [AV.sl 1 false (bys (numR l))]] (AOut.pan (AV.ifc 33 (int 10))) [AObj.box [AV.sl 1 false (bys (numR l))]] from (by have h0 := (@Go.Cdc.want_c (AObj.box [AV.sl 1 false (bys (numR l))]) (decide ((↑(numU l) : Int) ≤ (↑(List.length (numR l) % 18446744073709551616) : Int)))); simp only [if_neg (show ¬ (decide ((↑(numU l) : Int) ≤ (↑(List.length (numR l) % 18446744073709551616) : Int)) = true) from Bool.eq_false_iff.1 (decide_eq_false c2))] at h0; exact h0))] (by kernel_rfl)))
  · have h := h.2 c1
    have e1 := h
    exact e1 ▸ ((show CallC P G 80 [AV.ptr 0 0] (rdr l) (AOut.pan (AV.ifc 33 (int 10))) [AObj.box [AV.sl 1 false (bys (numR l))]] from callC_of [kc [0] (show CallC P G 79 [AV.ptr 0 0] [AObj.box [AV.sl 1 false (bys l)]] (AOut.pan (AV.ifc 33 (int 10))) [AObj.box [AV.sl 1 false (bys (numR l))]] from (by have h0 := (@Go.Cdc.number_c (l) (by omega)); simp only [if_neg (show ¬ (numOk l = true) from Bool.eq_false_iff.1 (c1))] at h0; exact h0))] (by kernel_rfl)))

theorem length_c (l : List UInt8) (hl : l.length ≤ 1000000000) : CallC P G 80 [.ptr 0 0] (rdr l) (if lenOk l = true then .ret (int (numU l)) else .pan badErr) (rdr (numR l)) := by
  have h1 := numR_le l
  refine length_w l hl (by omega) (numU_lt l) _ ⟨fun h => ⟨fun h2 => ?_, fun h2 => ?_⟩, fun h => ?_⟩
  · rw [if_pos (by simp only [lenOk, h, Bool.true_and, decide_eq_true_eq]; omega)]
  · rw [if_neg (by simp only [lenOk, h, Bool.true_and, decide_eq_true_eq]; omega)]; rfl
  · rw [if_neg (by simp [lenOk, h])]; rfl

theorem signed_w (u : Nat) (hu : u < 18446744073709551616) (v : Int) (h : (IntKind.wrap IntKind.i64 (↑(BitVec.toNat (BitVec.ofInt (IntKind.bits IntKind.i64) (IntKind.wrap IntKind.i64 (Int.fdiv (↑u : Int) (2 ^ min (Int.toNat 1) (IntKind.bits IntKind.u64)))) ^^^ BitVec.ofInt (IntKind.bits IntKind.i64) (IntKind.wrap IntKind.i64 (0 - IntKind.wrap IntKind.i64 (IntKind.wrap IntKind.u64 (↑(BitVec.toNat (BitVec.ofInt (IntKind.bits IntKind.u64) (↑u : Int) &&& BitVec.ofInt (IntKind.bits IntKind.u64) 1)) : Int)))))) : Int) : Int) = (v)) : CallC P G 78 [u64 u] [] (AOut.ret (int v)) [] := by
  have e1 := h
  exact callC_out (Sub.int_eq e1) [kp (show (0 : Int) ≤ (1 : Int) from (by omega))] (by kernel_rfl)

def sgn (u : Nat) : Int := if u % 2 = 0 then ((u / 2 : Nat) : Int) else -((u / 2 : Nat) : Int) - 1
theorem wrap_i64_nat (n : Nat) (h : n < 18446744073709551616) : IntKind.wrap .i64 (n : Int) = if n < 9223372036854775808 then (n : Int) else (n : Int) - 18446744073709551616 := by
  show (let m := (n : Int) % (2 ^ 64 : Int); if (IntKind.i64.signed && m ≥ (2 ^ (64 - 1) : Int)) = true then m - (2 ^ 64 : Int) else m) = _
  have e : (n : Int) % (2 ^ 64 : Int) = n := by
    rw [show (2 : Int) ^ 64 = 18446744073709551616 from by decide]; omega
  simp only [e, IntKind.signed, Bool.true_and, decide_eq_true_eq]
  rw [show (2 : Int) ^ (64 - 1) = 9223372036854775808 from by decide, show (2 : Int) ^ 64 = 18446744073709551616 from by decide]
  split <;> split <;> omega
theorem sgn_eq {u : Nat} (hu : u < 18446744073709551616) : IntKind.wrap IntKind.i64 (↑(BitVec.toNat (BitVec.ofInt (IntKind.bits IntKind.i64) (IntKind.wrap IntKind.i64 (Int.fdiv (↑u : Int) (2 ^ min (Int.toNat 1) (IntKind.bits IntKind.u64)))) ^^^ BitVec.ofInt (IntKind.bits IntKind.i64) (IntKind.wrap IntKind.i64 (0 - IntKind.wrap IntKind.i64 (IntKind.wrap IntKind.u64 (↑(BitVec.toNat (BitVec.ofInt (IntKind.bits IntKind.u64) (↑u : Int) &&& BitVec.ofInt (IntKind.bits IntKind.u64) 1)) : Int)))))) : Int) = sgn u := by
  have e1 : min (Int.toNat 1) (IntKind.bits IntKind.u64) = 1 := by decide
  have e2 : Int.fdiv (u : Int) (2 ^ 1) = ((u / 2 : Nat) : Int) := by
    show Int.fdiv (u : Int) ((2 : Nat) : Int) = _
    rw [Int.fdiv_eq_ediv_of_nonneg _ (by decide)]; omega
  have hb : u / 2 < 9223372036854775808 := by omega
  have e3 : (BitVec.ofInt (IntKind.bits IntKind.u64) (u : Int) &&& BitVec.ofInt (IntKind.bits IntKind.u64) 1).toNat = u % 2 := by
    have : (1 : Int) = ((1 : Nat) : Int) := rfl
    rw [BitVec.toNat_and, this, ofInt_nat, ofInt_nat]
    show (u % 2 ^ 64) &&& (1 % 2 ^ 64) = _
    rw [Nat.mod_eq_of_lt (show u < 2 ^ 64 by omega), Nat.mod_eq_of_lt (show 1 < 2 ^ 64 by decide)]
    exact Nat.and_two_pow_sub_one_eq_mod u 1
  rw [e1, e2, e3, wrap_i64_nat (u / 2) (by omega), if_pos hb, wrap64 (show u % 2 < 18446744073709551616 by omega), wrap_i64_nat (u % 2) (by omega), if_pos (by omega)]
  have e4 : ∀ n : Nat, (BitVec.ofInt (IntKind.bits IntKind.i64) (n : Int)).toNat = n % 2 ^ 64 := fun n => ofInt_nat _ n
  unfold sgn
  rcases Nat.mod_two_eq_zero_or_one u with h | h
  · rw [h, if_pos rfl]
    have : IntKind.wrap IntKind.i64 (0 - ((0 : Nat) : Int)) = ((0 : Nat) : Int) := by decide
    rw [this, BitVec.toNat_xor, e4, e4, Nat.mod_eq_of_lt (show u / 2 < 2 ^ 64 by omega)]
    show IntKind.wrap IntKind.i64 (((u / 2) ^^^ 0 : Nat) : Int) = _
    rw [Nat.xor_zero, wrap_i64_nat _ (by omega), if_pos hb]
  · rw [h, if_neg (by decide)]
    have : IntKind.wrap IntKind.i64 (0 - ((1 : Nat) : Int)) = -1 := by decide
    rw [this]
    have h5 : BitVec.ofInt 64 (-1) = BitVec.allOnes 64 := by decide
    show IntKind.wrap IntKind.i64 ((BitVec.ofInt 64 ((u / 2 : Nat) : Int) ^^^ BitVec.ofInt 64 (-1)).toNat : Int) = _
    rw [h5, BitVec.xor_allOnes, BitVec.toNat_not, ofInt_nat, Nat.mod_eq_of_lt (show u / 2 < 2 ^ 64 by omega)]
    have h7 : (2 : Nat) ^ 64 = 18446744073709551616 := by decide
    rw [h7, wrap_i64_nat _ (by omega), if_neg (by omega)]
    omega
theorem signed_c (u : Nat) (hu : u < 18446744073709551616) : CallC P G 78 [u64 u] [] (.ret (int (sgn u))) [] := signed_w u hu _ (sgn_eq hu)

/-! A value -/
theorem val_nil (dep : Nat) (h : True) : CallC P G 57 [AV.ptr 0 0, int (↑dep : Int)] (rdr []) (AOut.pan badErr) [AObj.gone] := by
  have _ := h
  exact CallC.heapSub ((show CallC P G 57 [AV.ptr 0 0, int (↑dep : Int)] (rdr []) (AOut.pan (AV.ifc 33 (int 10))) [AObj.box [AV.sl 1 false []]] from callC_of [kc [0] (@Go.Cdc.one_nil )] (by kernel_rfl))) (by exact ⟨.inr trivial, trivial⟩)

theorem val_bad (dep : Nat) (c : UInt8) (r : List UInt8) (hl : r.length ≤ 999999999) (hc : c.toNat < 256) (h1 : c.toNat ≠ 1) (h2 : c.toNat ≠ 2) (h3 : c.toNat ≠ 3) (h : True) : CallC P G 57 [AV.ptr 0 0, int (↑dep : Int)] (rdrC c r) (AOut.pan badErr) [AObj.gone] := by
  have _ := h
  exact CallC.heapSub ((show CallC P G 57 [AV.ptr 0 0, int (↑dep : Int)] (rdrC c r) (AOut.pan (AV.ifc 33 (int 10))) [AObj.box [AV.sl 1 false (bys r)]] from callC_of [kc [0] (@Go.Cdc.one_any (AV.lit (Value.int IntKind.u8 (↑(UInt8.toNat c) : Int))) (r) (by omega)), ko (Orc.elem [AV.lit (Value.int IntKind.u8 (↑(UInt8.toNat c) : Int))]), kp (show (0 : Int) ≤ (0 : Int) ∧ [[AV.lit (Value.int IntKind.u8 (↑(UInt8.toNat c) : Int))]][Int.toNat 0]? = some [AV.lit (Value.int IntKind.u8 (↑(UInt8.toNat c) : Int))] from (⟨by decide, rfl⟩)), kv 9 (show Am.Sub (int (IntKind.wrap IntKind.i64 (↑(UInt8.toNat c) : Int))) (int (↑(UInt8.toNat c) : Int)) from (Sub.of_wrap (by omega) (by omega) rfl)), kf (show ((↑(UInt8.toNat c) : Int) == 1) = false from (decide_eq_false (by omega))), kf (show ((↑(UInt8.toNat c) : Int) == 2) = false from (decide_eq_false (by omega))), kf (show ((↑(UInt8.toNat c) : Int) == 3) = false from (decide_eq_false (by omega))), kc [0] (show CallC P G 58 [AV.ptr 0 0, Am.bool false] [AObj.box [AV.sl 1 false (bys r)]] (AOut.pan (AV.ifc 33 (int 10))) [AObj.box [AV.sl 1 false (bys r)]] from (by have h0 := (@Go.Cdc.want_c (AObj.box [AV.sl 1 false (bys r)]) (false)); simp only [if_neg (show ¬ (false = true) from Bool.eq_false_iff.1 (rfl))] at h0; exact h0))] (by kernel_rfl))) (by exact ⟨.inr trivial, trivial⟩)

def mkI (n : Int) : CV := .mk 1 n .empty []
def mkT (s : ByteArray) : CV := .mk 2 0 s []
def mkL (l : List CV) : CV := .mk 3 0 .empty l

theorem val_int (dep : Nat) (r : List UInt8) (hl : r.length ≤ 999999999) (hu : numU r < 18446744073709551616) (hok : numOk r = true) (h : True) : CallC P G 57 [AV.ptr 0 0, int (↑dep : Int)] (rdrC 1 r) (AOut.ret (val (mkI (sgn (numU r))))) (rdr (numR r)) := by
  have _ := h
  exact CallC.out ((show CallC P G 57 [AV.ptr 0 0, int (↑dep : Int)] (rdrC 1 r) (AOut.ret (AV.agg [int 1, int (sgn (numU r)), str { data := #[] }, nilS])) [AObj.box [AV.sl 1 false (bys (numR r))]] from callC_of [kc [0] (@Go.Cdc.one_any (AV.lit (Value.int IntKind.u8 1)) (r) (by omega)), ko (Orc.elem [AV.lit (Value.int IntKind.u8 1)]), kp (show (0 : Int) ≤ (0 : Int) ∧ [[AV.lit (Value.int IntKind.u8 1)]][Int.toNat 0]? = some [AV.lit (Value.int IntKind.u8 1)] from (⟨by decide, rfl⟩)), kt (Eq.refl true), kc [0] (show CallC P G 79 [AV.ptr 0 0] [AObj.box [AV.sl 1 false (bys r)]] (AOut.ret (AV.lit (Value.int IntKind.u64 (↑(numU r) : Int)))) [AObj.box [AV.sl 1 false (bys (numR r))]] from (by have h0 := (@Go.Cdc.number_c (r) (by omega)); simp only [if_pos (show numOk r = true from hok)] at h0; exact h0)), kc [] (@Go.Cdc.signed_c (numU r) (by omega))] (by kernel_rfl))) (Sub.aggs ⟨Sub.refl _, Sub.refl _, Sub.refl _, Sub.nil _, trivial⟩)

theorem val_int_x (dep : Nat) (r : List UInt8) (hl : r.length ≤ 999999999) (hok : numOk r = false) (h : True) : CallC P G 57 [AV.ptr 0 0, int (↑dep : Int)] (rdrC 1 r) (AOut.pan badErr) [AObj.gone] := by
  have _ := h
  exact CallC.heapSub ((show CallC P G 57 [AV.ptr 0 0, int (↑dep : Int)] (rdrC 1 r) (AOut.pan (AV.ifc 33 (int 10))) [AObj.box [AV.sl 1 false (bys (numR r))]] from callC_of [kc [0] (@Go.Cdc.one_any (AV.lit (Value.int IntKind.u8 1)) (r) (by omega)), ko (Orc.elem [AV.lit (Value.int IntKind.u8 1)]), kp (show (0 : Int) ≤ (0 : Int) ∧ [[AV.lit (Value.int IntKind.u8 1)]][Int.toNat 0]? = some [AV.lit (Value.int IntKind.u8 1)] from (⟨by decide, rfl⟩)), kt (Eq.refl true), kc [0] (show CallC P G 79 [AV.ptr 0 0] [AObj.box [AV.sl 1 false (bys r)]] (AOut.pan (AV.ifc 33 (int 10))) [AObj.box [AV.sl 1 false (bys (numR r))]] from (by have h0 := (@Go.Cdc.number_c (r) (by omega)); simp only [if_neg (show ¬ (numOk r = true) from Bool.eq_false_iff.1 (hok))] at h0; exact h0))] (by kernel_rfl))) (by exact ⟨.inr trivial, trivial⟩)

theorem val_txt (dep : Nat) (r : List UInt8) (hl : r.length ≤ 999999999) (hu : numU r < 18446744073709551616) (hr : (numR r).length ≤ 999999999) (hok : lenOk r = true) (hle : numU r ≤ (numR r).length) (h : True) : CallC P G 57 [AV.ptr 0 0, int (↑dep : Int)] (rdrC 2 r) (AOut.ret (val (mkT { data := List.toArray (List.take (numU r) (numR r)) }))) (rdr (List.drop (numU r) (numR r))) := by
  have _ := h
  exact CallC.out ((show CallC P G 57 [AV.ptr 0 0, int (↑dep : Int)] (rdrC 2 r) (AOut.ret (AV.agg [int 2, int 0, str { data := List.toArray (List.take (numU r) (numR r)) }, nilS])) [AObj.box [AV.sl 1 false (bys (List.drop (numU r) (numR r)))]] from callC_of [kc [0] (@Go.Cdc.one_any (AV.lit (Value.int IntKind.u8 2)) (r) (by omega)), ko (Orc.elem [AV.lit (Value.int IntKind.u8 2)]), kp (show (0 : Int) ≤ (0 : Int) ∧ [[AV.lit (Value.int IntKind.u8 2)]][Int.toNat 0]? = some [AV.lit (Value.int IntKind.u8 2)] from (⟨by decide, rfl⟩)), kf (Eq.refl false), kt (Eq.refl true), kc [0] (show CallC P G 80 [AV.ptr 0 0] [AObj.box [AV.sl 1 false (bys r)]] (AOut.ret (int (↑(numU r) : Int))) [AObj.box [AV.sl 1 false (bys (numR r))]] from (by have h0 := (@Go.Cdc.length_c (r) (by omega)); simp only [if_pos (show lenOk r = true from hok)] at h0; exact h0)), kc [0] (@Go.Cdc.take_t (numR r) (numU r) (by omega) (by omega)), ko (Orc.bytes { data := List.toArray (List.take (numU r) (numR r)) }), kp (show bys (List.take (numU r) (numR r)) = List.map (fun (c : UInt8) => [AV.lit (Value.int IntKind.u8 (↑(UInt8.toNat c) : Int))]) (Array.toList { toList := List.take (numU r) (numR r) }) from (rfl))] (by kernel_rfl))) (Sub.aggs ⟨Sub.refl _, Sub.refl _, Sub.refl _, Sub.nil _, trivial⟩)

theorem val_txt_x (dep : Nat) (r : List UInt8) (hl : r.length ≤ 999999999) (hok : lenOk r = false) (h : True) : CallC P G 57 [AV.ptr 0 0, int (↑dep : Int)] (rdrC 2 r) (AOut.pan badErr) [AObj.gone] := by
  have _ := h
  exact CallC.heapSub ((show CallC P G 57 [AV.ptr 0 0, int (↑dep : Int)] (rdrC 2 r) (AOut.pan (AV.ifc 33 (int 10))) [AObj.box [AV.sl 1 false (bys (numR r))]] from callC_of [kc [0] (@Go.Cdc.one_any (AV.lit (Value.int IntKind.u8 2)) (r) (by omega)), ko (Orc.elem [AV.lit (Value.int IntKind.u8 2)]), kp (show (0 : Int) ≤ (0 : Int) ∧ [[AV.lit (Value.int IntKind.u8 2)]][Int.toNat 0]? = some [AV.lit (Value.int IntKind.u8 2)] from (⟨by decide, rfl⟩)), kf (Eq.refl false), kt (Eq.refl true), kc [0] (show CallC P G 80 [AV.ptr 0 0] [AObj.box [AV.sl 1 false (bys r)]] (AOut.pan (AV.ifc 33 (int 10))) [AObj.box [AV.sl 1 false (bys (numR r))]] from (by have h0 := (@Go.Cdc.length_c (r) (by omega)); simp only [if_neg (show ¬ (lenOk r = true) from Bool.eq_false_iff.1 (hok))] at h0; exact h0))] (by kernel_rfl))) (by exact ⟨.inr trivial, trivial⟩)

/-! A list's elements -/
def lst0 (dep : Nat) (rest : List UInt8) (N : Nat) : St := { env := slots 50 [(0, .ptr 0 0), (1, int dep), (4, .ptr 1 0), (36, int N), (37, int 0)], H := [.box [byt rest], .box [int 3, int 0, str { data := #[] }, nilS]] }
def lst1 (dep : Nat) (rest : List UInt8) (N i g : Nat) (vs : List CV) : St := { env := slots 50 [(0, .ptr 0 0), (1, int dep), (4, .ptr 1 0), (36, int N), (37, int i)], H := [.box [byt rest], .box [int 3, int 0, str { data := #[] }, .own 2 g 0 vs.length], .arr g 4 false (encL vs)] }

theorem lst0_end (dep : Nat) (rest : List UInt8) (N : Nat) (hN : N = 0) (h : True) : RunL P G none 1 (loopAt P 57 0) (lst0 dep rest N) (AEx.exit 1) { env := slots 50 [(4, AV.ptr 1 0)], H := [AObj.box [byt rest], AObj.box [int 3, int 0, str { data := #[] }, nilS]] } := by
  have _ := h
  exact loop_exit [kf (show decide ((0 : Int) < (↑N : Int)) = false from (decide_eq_false (by omega)))] (others 50 [4]) 2 (by kernel_rfl)

theorem lst0_ok (dep : Nat) (rest rest' : List UInt8) (N : Nat) (hd : dep < 16) (hN : 0 < N) (hN2 : N ≤ 1000000000) (v : CV) (hv : CallC P G 57 [.ptr 0 0, int ((dep + 1 : Nat) : Int)] (rdr rest) (.ret (val v)) (rdr rest')) (ex : AEx) (s' : St) (h : RunL P G none 1 (loopAt P 57 0) { env := slots 50 [(0, AV.ptr 0 0), (1, int (↑dep : Int)), (4, AV.ptr 1 0), (36, int (↑N : Int)), (37, int 1)], H := [AObj.box [AV.sl 1 false (bys rest')], AObj.box [int 3, int 0, str { data := #[] }, AV.own 2 0 0 1], AObj.arr 0 4 false [[int (CV.k v), int (CV.n v), str (CV.s v), AV.sl 4 false (encL (CV.l v))]]] } ex s') : RunL P G none 1 (loopAt P 57 0) (lst0 dep rest N) ex s' := by
  exact loop_next [kt (show decide ((0 : Int) < (↑N : Int)) = true from (decide_eq_true (by omega))), kv 43 (show Am.Sub (int (IntKind.wrap IntKind.i64 ((↑dep : Int) + 1))) (int (↑(dep + 1) : Int)) from (Sub.of_wrap (by omega) (by omega) (by omega))), kc [0] (@hv ), kp (show [[int (CV.k v), int (CV.n v), str (CV.s v), AV.sl 4 false (encL (CV.l v))]] ≠ [] from (by simp)), kp (show 56 ≤ 140737488355328 from (by omega))] (others 50 [0, 1, 4, 36, 37]) 3 h (by kernel_rfl)

theorem lst0_bad (dep : Nat) (rest : List UInt8) (N : Nat) (hd : dep < 16) (hN : 0 < N) (hN2 : N ≤ 1000000000) (hv : CallC P G 57 [.ptr 0 0, int ((dep + 1 : Nat) : Int)] (rdr rest) (.pan badErr) [.gone]) (h : True) : RunL P G none 1 (loopAt P 57 0) (lst0 dep rest N) (AEx.pan badErr) { env := slots 50 [], H := [AObj.gone] } := by
  have _ := h
  exact loop_exit [kt (show decide ((0 : Int) < (↑N : Int)) = true from (decide_eq_true (by omega))), ko (Orc.at_ 5), kv 43 (show Am.Sub (int (IntKind.wrap IntKind.i64 ((↑dep : Int) + 1))) (int (↑(dep + 1) : Int)) from (Sub.of_wrap (by omega) (by omega) (by omega))), kc [0] (@hv )] (others 50 []) 1 (by kernel_rfl)

theorem lst1_end (dep : Nat) (rest : List UInt8) (N i g : Nat) (vs : List CV) (hN : N ≤ i) (h : True) : RunL P G none 1 (loopAt P 57 0) (lst1 dep rest N i g vs) (AEx.exit 1) { env := slots 50 [(4, AV.ptr 1 0)], H := [AObj.box [byt rest], AObj.box [int 3, int 0, str { data := #[] }, AV.own 2 g 0 (List.length vs)], AObj.arr g 4 false (encL vs)] } := by
  have _ := h
  exact loop_exit [kf (show decide ((↑i : Int) < (↑N : Int)) = false from (decide_eq_false (by omega)))] (others 50 [4]) 3 (by kernel_rfl)

theorem lst1_ok (dep : Nat) (rest rest' : List UInt8) (N i g : Nat) (vs : List CV) (hd : dep < 16) (hN : i < N) (hN2 : N ≤ 1000000000) (hvs : vs.length ≤ 1000000000) (v : CV) (hv : CallC P G 57 [.ptr 0 0, int ((dep + 1 : Nat) : Int)] (rdr rest) (.ret (val v)) (rdr rest')) (ex : AEx) (s' : St) (h : RunL P G none 1 (loopAt P 57 0) { env := slots 50 [(0, AV.ptr 0 0), (1, int (↑dep : Int)), (4, AV.ptr 1 0), (36, int (↑N : Int)), (37, int (↑(i + 1) : Int))], H := [AObj.box [AV.sl 1 false (bys rest')], AObj.box [int 3, int 0, str { data := #[] }, AV.own 2 (g + 1) 0 (List.length vs + 1)], AObj.arr (g + 1) 4 false (encL vs ++ [[int (CV.k v), int (CV.n v), str (CV.s v), AV.sl 4 false (encL (CV.l v))]])] } ex s') : RunL P G none 1 (loopAt P 57 0) (lst1 dep rest N i g vs) ex s' := by
  exact loop_next [kt (show decide ((↑i : Int) < (↑N : Int)) = true from (decide_eq_true (by omega))), kv 43 (show Am.Sub (int (IntKind.wrap IntKind.i64 ((↑dep : Int) + 1))) (int (↑(dep + 1) : Int)) from (Sub.of_wrap (by omega) (by omega) (by omega))), kc [0] (@hv ), kp (show g = g from (rfl)), kp (show List.length vs = List.length (encL vs) from ((Go.Cdc.encL_length _).symm)), kp (show (List.length vs + 1) * 56 ≤ 140737488355328 from (by omega)), kv 48 (show Am.Sub (int (IntKind.wrap IntKind.i64 ((↑i : Int) + 1))) (int (↑(i + 1) : Int)) from (Sub.of_wrap (by omega) (by omega) (by omega)))] (others 50 [0, 1, 4, 36, 37]) 3 h (by kernel_rfl)

theorem lst1_bad (dep : Nat) (rest : List UInt8) (N i g : Nat) (vs : List CV) (hd : dep < 16) (hN : i < N) (hN2 : N ≤ 1000000000) (hv : CallC P G 57 [.ptr 0 0, int ((dep + 1 : Nat) : Int)] (rdr rest) (.pan badErr) [.gone]) (h : True) : RunL P G none 1 (loopAt P 57 0) (lst1 dep rest N i g vs) (AEx.pan badErr) { env := slots 50 [], H := [AObj.gone] } := by
  have _ := h
  exact loop_exit [kt (show decide ((↑i : Int) < (↑N : Int)) = true from (decide_eq_true (by omega))), ko (Orc.at_ 5), kv 43 (show Am.Sub (int (IntKind.wrap IntKind.i64 ((↑dep : Int) + 1))) (int (↑(dep + 1) : Int)) from (Sub.of_wrap (by omega) (by omega) (by omega))), kc [0] (@hv )] (others 50 []) 1 (by kernel_rfl)

/-- What a list's elements come to, read by p. -/
def lstF (p : List UInt8 → Bool × CV × List UInt8) : Nat → List UInt8 → Bool × List CV × List UInt8
  | 0, r => (true, [], r)
  | n + 1, r => if (p r).1 = true then ((lstF p n (p r).2.2).1, (p r).2.1 :: (lstF p n (p r).2.2).2.1, (lstF p n (p r).2.2).2.2) else (false, [], [])
/-- What is asked of the elements' reader. -/
structure Reads (dep : Nat) (p : List UInt8 → Bool × CV × List UInt8) : Prop where
  call : ∀ l : List UInt8, l.length ≤ 1000000000 → CallC P G 57 [.ptr 0 0, int (dep : Int)] (rdr l) (if (p l).1 = true then .ret (val (p l).2.1) else .pan badErr) [if (p l).1 = true then .box [byt (p l).2.2] else .gone]
  le : ∀ l, (p l).2.2.length ≤ l.length
theorem lstF_len {p : List UInt8 → Bool × CV × List UInt8} : ∀ (n : Nat) (r : List UInt8), (lstF p n r).1 = true → (lstF p n r).2.1.length = n
  | 0, _, _ => rfl
  | n + 1, r, h => by
    simp only [lstF] at h ⊢
    split at h
    · rename_i hp
      rw [if_pos hp]
      simp [lstF_len n _ h]
    · cases h
theorem lstF_le {p : List UInt8 → Bool × CV × List UInt8} (hp : ∀ l, (p l).2.2.length ≤ l.length) : ∀ (n : Nat) (r : List UInt8), (lstF p n r).2.2.length ≤ r.length
  | 0, _ => Nat.le_refl _
  | n + 1, r => by
    simp only [lstF]
    split
    · exact Nat.le_trans (lstF_le hp n _) (hp r)
    · simp

theorem lst1_loop {dep : Nat} {p : List UInt8 → Bool × CV × List UInt8} (hp : Reads (dep + 1) p) (hd : dep < 16) (N : Nat) (hN : N ≤ 1000000000) : ∀ (n i g : Nat) (vs : List CV) (rest : List UInt8), N - i = n → i ≤ N → vs.length = i → rest.length ≤ 1000000000 →
    RunL P G none 1 (loopAt P 57 0) (lst1 dep rest N i g vs) (if (lstF p n rest).1 = true then .exit 1 else .pan badErr) { env := slots 50 [(4, if (lstF p n rest).1 = true then .ptr 1 0 else .dead)], H := if (lstF p n rest).1 = true then
      [.box [byt (lstF p n rest).2.2], .box [int 3, int 0, str { data := #[] }, .own 2 (g + n) 0 (vs ++ (lstF p n rest).2.1).length], .arr (g + n) 4 false (encL (vs ++ (lstF p n rest).2.1))] else [.gone] }
  | 0, i, g, vs, rest, hn, hi, hvs, hr => by
    simp only [lstF, if_true, List.append_nil, Nat.add_zero]
    exact lst1_end dep rest N i g vs (by omega) trivial
  | n + 1, i, g, vs, rest, hn, hi, hvs, hr => by
    have hc := hp.call rest hr
    cases hok : (p rest).1 with
    | false =>
      rw [hok] at hc
      simp only [lstF, hok, Bool.false_eq_true, if_false] at hc ⊢
      exact lst1_bad dep rest N i g vs hd (by omega) hN hc trivial
    | true =>
      rw [hok] at hc
      simp only [lstF, hok, if_true] at hc ⊢
      refine lst1_ok dep rest (p rest).2.2 N i g vs hd (by omega) hN (by omega) (p rest).2.1 hc _ _ ?_
      have ih := lst1_loop hp hd N hN n (i + 1) (g + 1) (vs ++ [(p rest).2.1]) (p rest).2.2 (by omega) (by omega) (by simp [hvs]) (Nat.le_trans (hp.le rest) hr)
      unfold lst1 at ih
      rw [← encL_append, ← encL_one, List.append_assoc, List.singleton_append, Nat.add_assoc, Nat.add_comm 1 n] at ih
      rw [show (vs ++ [(p rest).2.1]).length = vs.length + 1 from by simp] at ih
      exact ih

theorem lst0_loop {dep : Nat} {p : List UInt8 → Bool × CV × List UInt8} (hp : Reads (dep + 1) p) (hd : dep < 16) (n : Nat) (hN : n + 1 ≤ 1000000000) (rest : List UInt8) (hr : rest.length ≤ 1000000000) :
    RunL P G none 1 (loopAt P 57 0) (lst0 dep rest (n + 1)) (if (lstF p (n + 1) rest).1 = true then .exit 1 else .pan badErr) { env := slots 50 [(4, if (lstF p (n + 1) rest).1 = true then .ptr 1 0 else .dead)], H := if (lstF p (n + 1) rest).1 = true then
      [.box [byt (lstF p (n + 1) rest).2.2], .box [int 3, int 0, str { data := #[] }, .own 2 n 0 (lstF p (n + 1) rest).2.1.length], .arr n 4 false (encL (lstF p (n + 1) rest).2.1)] else [.gone] } := by
  have hc := hp.call rest hr
  cases hok : (p rest).1 with
  | false =>
    rw [hok] at hc
    simp only [lstF, hok, Bool.false_eq_true, if_false] at hc ⊢
    exact lst0_bad dep rest (n + 1) hd (by omega) hN hc trivial
  | true =>
    rw [hok] at hc
    simp only [lstF, hok, if_true] at hc ⊢
    refine lst0_ok dep rest (p rest).2.2 (n + 1) hd (by omega) hN (p rest).2.1 hc _ _ ?_
    have ih := lst1_loop hp hd (n + 1) hN n 1 0 [(p rest).2.1] (p rest).2.2 (by omega) (by omega) rfl (Nat.le_trans (hp.le rest) hr)
    unfold lst1 at ih
    rw [← encL_one, Nat.zero_add] at ih
    exact ih

end Go.Cdc

/- CODEC, 3: the program's Decode. -/
namespace Go.Cdc
set_option maxRecDepth 100000
set_option linter.unusedSimpArgs false
set_option linter.unusedVariables false
open Go Go.Am Go.Proofs Go.Seat

theorem val_deep (dep : Nat) (r : List UInt8) (hl : r.length ≤ 999999999) (hd : dep = 16) (h : True) : CallC P G 57 [AV.ptr 0 0, int (↑dep : Int)] (rdrC 3 r) (AOut.pan badErr) [AObj.gone] := by
  have _ := h
  exact CallC.heapSub ((show CallC P G 57 [AV.ptr 0 0, int (↑dep : Int)] (rdrC 3 r) (AOut.pan (AV.ifc 33 (int 10))) [AObj.box [AV.sl 1 false (bys r)]] from callC_of [kc [0] (@Go.Cdc.one_any (AV.lit (Value.int IntKind.u8 3)) (r) (by omega)), ko (Orc.elem [AV.lit (Value.int IntKind.u8 3)]), kp (show (0 : Int) ≤ (0 : Int) ∧ [[AV.lit (Value.int IntKind.u8 3)]][Int.toNat 0]? = some [AV.lit (Value.int IntKind.u8 3)] from (⟨by decide, rfl⟩)), kf (Eq.refl false), kf (Eq.refl false), kt (Eq.refl true), kc [0] (show CallC P G 58 [AV.ptr 0 0, Am.bool (decide ((↑dep : Int) < (16 : Int)))] [AObj.box [AV.sl 1 false (bys r)]] (AOut.pan (AV.ifc 33 (int 10))) [AObj.box [AV.sl 1 false (bys r)]] from (by have h0 := (@Go.Cdc.want_c (AObj.box [AV.sl 1 false (bys r)]) (decide ((↑dep : Int) < (16 : Int)))); simp only [if_neg (show ¬ (decide ((↑dep : Int) < (16 : Int)) = true) from Bool.eq_false_iff.1 (decide_eq_false (by omega)))] at h0; exact h0))] (by kernel_rfl))) (by exact ⟨.inr trivial, trivial⟩)

theorem val_len_x (dep : Nat) (r : List UInt8) (hl : r.length ≤ 999999999) (hd : dep < 16) (hok : lenOk r = false) (h : True) : CallC P G 57 [AV.ptr 0 0, int (↑dep : Int)] (rdrC 3 r) (AOut.pan badErr) [AObj.gone] := by
  have _ := h
  exact CallC.heapSub ((show CallC P G 57 [AV.ptr 0 0, int (↑dep : Int)] (rdrC 3 r) (AOut.pan (AV.ifc 33 (int 10))) [AObj.box [AV.sl 1 false (bys (numR r))]] from callC_of [kc [0] (@Go.Cdc.one_any (AV.lit (Value.int IntKind.u8 3)) (r) (by omega)), ko (Orc.elem [AV.lit (Value.int IntKind.u8 3)]), kp (show (0 : Int) ≤ (0 : Int) ∧ [[AV.lit (Value.int IntKind.u8 3)]][Int.toNat 0]? = some [AV.lit (Value.int IntKind.u8 3)] from (⟨by decide, rfl⟩)), kf (Eq.refl false), kf (Eq.refl false), kt (Eq.refl true), kc [0] (show CallC P G 58 [AV.ptr 0 0, Am.bool (decide ((↑dep : Int) < (16 : Int)))] [AObj.box [AV.sl 1 false (bys r)]] (AOut.ret (AV.tup [])) [AObj.box [AV.sl 1 false (bys r)]] from (by have h0 := (@Go.Cdc.want_c (AObj.box [AV.sl 1 false (bys r)]) (decide ((↑dep : Int) < (16 : Int)))); simp only [if_pos (show decide ((↑dep : Int) < (16 : Int)) = true from decide_eq_true (by omega))] at h0; exact h0)), kc [0] (show CallC P G 80 [AV.ptr 0 0] [AObj.box [AV.sl 1 false (bys r)]] (AOut.pan (AV.ifc 33 (int 10))) [AObj.box [AV.sl 1 false (bys (numR r))]] from (by have h0 := (@Go.Cdc.length_c (r) (by omega)); simp only [if_neg (show ¬ (lenOk r = true) from Bool.eq_false_iff.1 (hok))] at h0; exact h0))] (by kernel_rfl))) (by exact ⟨.inr trivial, trivial⟩)

theorem val_lst0 (dep : Nat) (r : List UInt8) (hl : r.length ≤ 999999999) (hd : dep < 16) (hok : lenOk r = true) (hu : numU r = 0) (h : True) : CallC P G 57 [AV.ptr 0 0, int (↑dep : Int)] (rdrC 3 r) (AOut.ret (val (mkL []))) (rdr (numR r)) := by
  have _ := h
  exact CallC.out ((show CallC P G 57 [AV.ptr 0 0, int (↑dep : Int)] (rdrC 3 r) (AOut.ret (AV.agg [int 3, int 0, str { data := #[] }, nilS])) [AObj.box [AV.sl 1 false (bys (numR r))]] from callC_of [kc [0] (@Go.Cdc.one_any (AV.lit (Value.int IntKind.u8 3)) (r) (by omega)), ko (Orc.elem [AV.lit (Value.int IntKind.u8 3)]), kp (show (0 : Int) ≤ (0 : Int) ∧ [[AV.lit (Value.int IntKind.u8 3)]][Int.toNat 0]? = some [AV.lit (Value.int IntKind.u8 3)] from (⟨by decide, rfl⟩)), kf (Eq.refl false), kf (Eq.refl false), kt (Eq.refl true), kc [0] (show CallC P G 58 [AV.ptr 0 0, Am.bool (decide ((↑dep : Int) < (16 : Int)))] [AObj.box [AV.sl 1 false (bys r)]] (AOut.ret (AV.tup [])) [AObj.box [AV.sl 1 false (bys r)]] from (by have h0 := (@Go.Cdc.want_c (AObj.box [AV.sl 1 false (bys r)]) (decide ((↑dep : Int) < (16 : Int)))); simp only [if_pos (show decide ((↑dep : Int) < (16 : Int)) = true from decide_eq_true (by omega))] at h0; exact h0)), kc [0] (show CallC P G 80 [AV.ptr 0 0] [AObj.box [AV.sl 1 false (bys r)]] (AOut.ret (int (↑(numU r) : Int))) [AObj.box [AV.sl 1 false (bys (numR r))]] from (by have h0 := (@Go.Cdc.length_c (r) (by omega)); simp only [if_pos (show lenOk r = true from hok)] at h0; exact h0)), kl [2, 3, 5, 6, 7, 8, 9, 10, 11, 12, 13, 14, 15, 16, 17, 18, 19, 20, 21, 22, 23, 24, 25, 26, 27, 28, 29, 30, 31, 32, 33, 34, 35, 38, 39, 40, 41, 42, 43, 44, 45, 46, 47, 48, 49] 2 (@Go.Cdc.lst0_end (dep) (numR r) (numU r) (by omega) (trivial))] (by kernel_rfl))) (Sub.aggs ⟨Sub.refl _, Sub.refl _, Sub.refl _, Sub.nil _, trivial⟩)

theorem val_lst_ok (dep n : Nat) (r r' : List UInt8) (vs : List CV) (hl : r.length ≤ 999999999) (hd : dep < 16) (hok : lenOk r = true) (hu : numU r = n + 1) (hlen : vs.length = n + 1) (hN : n + 1 ≤ 1000000000) (hL : RunL P G none 1 (loopAt P 57 0) (lst0 dep (numR r) (numU r)) (.exit 1) { env := slots 50 [(4, .ptr 1 0)], H := [.box [byt r'], .box [int 3, int 0, str { data := #[] }, .own 2 n 0 vs.length], .arr n 4 false (encL vs)] }) (h : True) : CallC P G 57 [AV.ptr 0 0, int (↑dep : Int)] (rdrC 3 r) (AOut.ret (val (mkL vs))) (rdr r') := by
  have _ := h
  exact callC_of [kc [0] (@Go.Cdc.one_any (AV.lit (Value.int IntKind.u8 3)) (r) (by omega)), ko (Orc.elem [AV.lit (Value.int IntKind.u8 3)]), kp (show (0 : Int) ≤ (0 : Int) ∧ [[AV.lit (Value.int IntKind.u8 3)]][Int.toNat 0]? = some [AV.lit (Value.int IntKind.u8 3)] from (⟨by decide, rfl⟩)), kf (Eq.refl false), kf (Eq.refl false), kt (Eq.refl true), kc [0] (show CallC P G 58 [AV.ptr 0 0, Am.bool (decide ((↑dep : Int) < (16 : Int)))] [AObj.box [AV.sl 1 false (bys r)]] (AOut.ret (AV.tup [])) [AObj.box [AV.sl 1 false (bys r)]] from (by have h0 := (@Go.Cdc.want_c (AObj.box [AV.sl 1 false (bys r)]) (decide ((↑dep : Int) < (16 : Int)))); simp only [if_pos (show decide ((↑dep : Int) < (16 : Int)) = true from decide_eq_true (by omega))] at h0; exact h0)), kc [0] (show CallC P G 80 [AV.ptr 0 0] [AObj.box [AV.sl 1 false (bys r)]] (AOut.ret (int (↑(numU r) : Int))) [AObj.box [AV.sl 1 false (bys (numR r))]] from (by have h0 := (@Go.Cdc.length_c (r) (by omega)); simp only [if_pos (show lenOk r = true from hok)] at h0; exact h0)), kl [2, 3, 5, 6, 7, 8, 9, 10, 11, 12, 13, 14, 15, 16, 17, 18, 19, 20, 21, 22, 23, 24, 25, 26, 27, 28, 29, 30, 31, 32, 33, 34, 35, 38, 39, 40, 41, 42, 43, 44, 45, 46, 47, 48, 49] 2 (@hL ), ko (Orc.fz (some 49) (encL vs)), kp (show n = n from (rfl)), kp (show List.take (List.length vs) (List.drop 0 (encL vs)) = encL vs from (Go.Cdc.encL_all _)), kp (show List.length (encL vs) = List.length vs from (Go.Cdc.encL_length _)), kp (show ∀ (c : List AV), c ∈ encL vs → List.all c AV.pureB = true from (Go.Cdc.encL_pure _))] (by kernel_rfl)

theorem val_lst_bad (dep n : Nat) (r : List UInt8) (hl : r.length ≤ 999999999) (hd : dep < 16) (hok : lenOk r = true) (hL : RunL P G none 1 (loopAt P 57 0) (lst0 dep (numR r) (numU r)) (.pan badErr) { env := slots 50 [], H := [.gone] }) (h : True) : CallC P G 57 [AV.ptr 0 0, int (↑dep : Int)] (rdrC 3 r) (AOut.pan badErr) [AObj.gone] := by
  have _ := h
  exact callC_of [kc [0] (@Go.Cdc.one_any (AV.lit (Value.int IntKind.u8 3)) (r) (by omega)), ko (Orc.elem [AV.lit (Value.int IntKind.u8 3)]), kp (show (0 : Int) ≤ (0 : Int) ∧ [[AV.lit (Value.int IntKind.u8 3)]][Int.toNat 0]? = some [AV.lit (Value.int IntKind.u8 3)] from (⟨by decide, rfl⟩)), kf (Eq.refl false), kf (Eq.refl false), kt (Eq.refl true), kc [0] (show CallC P G 58 [AV.ptr 0 0, Am.bool (decide ((↑dep : Int) < (16 : Int)))] [AObj.box [AV.sl 1 false (bys r)]] (AOut.ret (AV.tup [])) [AObj.box [AV.sl 1 false (bys r)]] from (by have h0 := (@Go.Cdc.want_c (AObj.box [AV.sl 1 false (bys r)]) (decide ((↑dep : Int) < (16 : Int)))); simp only [if_pos (show decide ((↑dep : Int) < (16 : Int)) = true from decide_eq_true (by omega))] at h0; exact h0)), kc [0] (show CallC P G 80 [AV.ptr 0 0] [AObj.box [AV.sl 1 false (bys r)]] (AOut.ret (int (↑(numU r) : Int))) [AObj.box [AV.sl 1 false (bys (numR r))]] from (by have h0 := (@Go.Cdc.length_c (r) (by omega)); simp only [if_pos (show lenOk r = true from hok)] at h0; exact h0)), kl [2, 3, 5, 6, 7, 8, 9, 10, 11, 12, 13, 14, 15, 16, 17, 18, 19, 20, 21, 22, 23, 24, 25, 26, 27, 28, 29, 30, 31, 32, 33, 34, 35, 38, 39, 40, 41, 42, 43, 44, 45, 46, 47, 48, 49] 2 (@hL )] (by kernel_rfl)

/-- What the program's reader makes of bytes: whether it accepts, the value, what remains. 'deep': lists are allowed. -/
def valS (deep : Bool) (p : List UInt8 → Bool × CV × List UInt8) : List UInt8 → Bool × CV × List UInt8
  | [] => (false, default, [])
  | c :: r => if c.toNat = 1 then (numOk r, mkI (sgn (numU r)), numR r)
    else if c.toNat = 2 then (lenOk r, mkT ⟨((numR r).take (numU r)).toArray⟩, (numR r).drop (numU r))
    else if c.toNat = 3 then (if deep = true ∧ lenOk r = true then ((lstF p (numU r) (numR r)).1, mkL (lstF p (numU r) (numR r)).2.1, (lstF p (numU r) (numR r)).2.2) else (false, default, []))
    else (false, default, [])
def valF : Nat → List UInt8 → Bool × CV × List UInt8
  | 0 => valS false fun _ => (false, default, [])
  | f + 1 => valS true (valF f)
theorem valS_le {deep : Bool} {p : List UInt8 → Bool × CV × List UInt8} (hp : ∀ l, (p l).2.2.length ≤ l.length) : ∀ l, (valS deep p l).2.2.length ≤ l.length
  | [] => Nat.le_refl _
  | c :: r => by
    have h1 := numR_le r
    simp only [valS]
    split
    · simp only [List.length_cons]; omega
    · split
      · simp only [List.length_cons, List.length_drop]; omega
      · split
        · split
          · have := lstF_le hp (numU r) (numR r)
            simp only [List.length_cons]; omega
          · simp
        · simp
theorem lenOk_le {r : List UInt8} (h : lenOk r = true) : numU r ≤ (numR r).length := by
  simp only [lenOk, Bool.and_eq_true, decide_eq_true_eq] at h
  exact h.2
theorem byte_eq {c d : UInt8} (h : c.toNat = d.toNat) : c = d := UInt8.toNat_inj.1 h
theorem valS_1 {deep : Bool} {p : List UInt8 → Bool × CV × List UInt8} {c : UInt8} {r : List UInt8} (h : c.toNat = 1) : valS deep p (c :: r) = (numOk r, mkI (sgn (numU r)), numR r) := by
  simp only [valS]; rw [if_pos h]
theorem valS_2 {deep : Bool} {p : List UInt8 → Bool × CV × List UInt8} {c : UInt8} {r : List UInt8} (h : c.toNat = 2) : valS deep p (c :: r) = (lenOk r, mkT ⟨((numR r).take (numU r)).toArray⟩, (numR r).drop (numU r)) := by
  simp only [valS]; rw [if_neg (by omega), if_pos h]
theorem valS_3 {deep : Bool} {p : List UInt8 → Bool × CV × List UInt8} {c : UInt8} {r : List UInt8} (h : c.toNat = 3) : valS deep p (c :: r) = if deep = true ∧ lenOk r = true then ((lstF p (numU r) (numR r)).1, mkL (lstF p (numU r) (numR r)).2.1, (lstF p (numU r) (numR r)).2.2) else (false, default, []) := by
  simp only [valS]; rw [if_neg (by omega), if_neg (by omega), if_pos h]
theorem valS_x {deep : Bool} {p : List UInt8 → Bool × CV × List UInt8} {c : UInt8} {r : List UInt8} (h1 : c.toNat ≠ 1) (h2 : c.toNat ≠ 2) (h3 : c.toNat ≠ 3) : valS deep p (c :: r) = (false, default, []) := by
  simp only [valS]; rw [if_neg h1, if_neg h2, if_neg h3]
theorem valS_call {dep : Nat} {deep : Bool} {p : List UInt8 → Bool × CV × List UInt8} (hp : deep = true → dep < 16 ∧ Reads (dep + 1) p) (hd : deep = false → dep = 16) (l : List UInt8) (hl : l.length ≤ 1000000000) :
    CallC P G 57 [.ptr 0 0, int (dep : Int)] (rdr l) (if (valS deep p l).1 = true then .ret (val (valS deep p l).2.1) else .pan badErr) [if (valS deep p l).1 = true then .box [byt (valS deep p l).2.2] else .gone] := by
  cases l with
  | nil => exact val_nil dep trivial
  | cons c r =>
    have hr : r.length ≤ 999999999 := by simp at hl; omega
    have hR := numR_le r
    by_cases h1 : c.toNat = 1
    · have hc : c = 1 := byte_eq h1
      rw [valS_1 h1]
      subst hc
      cases hok : numOk r with
      | true => simp only [if_true]; exact val_int dep r hr (numU_lt r) hok trivial
      | false => simp only [Bool.false_eq_true, if_false]; exact val_int_x dep r hr hok trivial
    · by_cases h2 : c.toNat = 2
      · have hc : c = 2 := byte_eq h2
        rw [valS_2 h2]
        subst hc
        cases hok : lenOk r with
        | true => simp only [if_true]; exact val_txt dep r hr (numU_lt r) (by omega) hok (lenOk_le hok) trivial
        | false => simp only [Bool.false_eq_true, if_false]; exact val_txt_x dep r hr hok trivial
      · by_cases h3 : c.toNat = 3
        · have hc : c = 3 := byte_eq h3
          rw [valS_3 h3]
          subst hc
          cases deep with
          | false =>
            simp only [Bool.false_eq_true, false_and, if_false]
            exact val_deep dep r hr (hd rfl) trivial
          | true =>
            obtain ⟨hdep, hp⟩ := hp rfl
            cases hok : lenOk r with
            | false => simp only [Bool.false_eq_true, and_false, if_false]; exact val_len_x dep r hr hdep hok trivial
            | true =>
              simp only [and_self, if_true]
              have hle := lenOk_le hok
              cases hu : numU r with
              | zero =>
                simp only [lstF, if_true]
                exact val_lst0 dep r hr hdep hok hu trivial
              | succ n =>
                have hL := lst0_loop hp hdep n (by omega) (numR r) (by omega)
                cases hq : (lstF p (n + 1) (numR r)).1 with
                | true =>
                  rw [hq] at hL
                  simp only [if_true] at hL ⊢
                  exact val_lst_ok dep n r _ _ hr hdep hok hu (lstF_len _ _ hq) (by omega) (by rw [hu]; exact hL) trivial
                | false =>
                  rw [hq] at hL
                  simp only [Bool.false_eq_true, if_false] at hL ⊢
                  exact val_lst_bad dep n r hr hdep hok (by rw [hu]; exact hL) trivial
        · rw [valS_x h1 h2 h3]
          simp only [if_false, Bool.false_eq_true]
          exact val_bad dep c r hr c.toNat_lt h1 h2 h3 trivial

theorem valF_reads : ∀ (f dep : Nat), f + dep = 16 → Reads dep (valF f)
  | 0, dep, h => ⟨fun l hl => valS_call (fun h => by cases h) (fun _ => by omega) l hl, valS_le fun _ => Nat.zero_le _⟩
  | f + 1, dep, h => ⟨fun l hl => valS_call (fun _ => ⟨by omega, valF_reads f (dep + 1) (by omega)⟩) (fun h => by cases h) l hl, valS_le (valF_reads f (dep + 1) (by omega)).le⟩

/-! Decode -/
theorem def_ret_p (o0 o1 o2 : AObj) : runDef P G 56 [.ptr 0 0, .ptr 1 0] [o0, o1, o2] (.ret .dead) [.br false] = some ([o0, o1, o2], .ret .dead, [false = false]) := by kernel_rfl
theorem def_ret (o0 o1 o2 : AObj) : DefC P G 56 [.ptr 0 0, .ptr 1 0] [o0, o1, o2] (.ret .dead) [o0, o1, o2] (.ret .dead) := defC_of_run _ (def_ret_p o0 o1 o2) ⟨rfl, trivial⟩
theorem def_pan_p (a b c d e : AV) (o2 : AObj) : runDef P G 56 [.ptr 0 0, .ptr 1 0] [.box [a, b, c, d], .box [e], o2] (.pan badErr) [.br true] = some ([.box [int 0, int 0, str { data := #[] }, nilS], .box [int 10], o2], .ret .dead, [true = true]) := by kernel_rfl
theorem def_pan (a b c d e : AV) (o2 : AObj) : DefC P G 56 [.ptr 0 0, .ptr 1 0] [.box [a, b, c, d], .box [e], o2] (.pan badErr) [.box [int 0, int 0, str { data := #[] }, nilS], .box [int 10], o2] (.ret .dead) := defC_of_run _ (def_pan_p a b c d e o2) ⟨rfl, trivial⟩

theorem dec_ok (l r : List UInt8) (v : CV) (hr0 : r.length = 0) (hv : CallC P G 57 [.ptr 0 0, int ((0 : Nat) : Int)] (rdr l) (.ret (val v)) (rdr r)) (h : True) : CallC P G 22 [byt l] [] (AOut.ret (AV.tup [val v, int 0])) [] := by
  have _ := h
  exact callC_of [kc [2] (@hv ), kv 16 (show Am.Sub (int (↑(List.length (bys r)) : Int)) (int (↑(List.length r) : Int)) from (Sub.of_eq (by simp only [Go.Cdc.bys_length]))), kc [2] (show CallC P G 58 [AV.ptr 0 0, Am.bool ((↑(List.length r) : Int) == 0)] [AObj.box [AV.sl 1 false (bys r)]] (AOut.ret (AV.tup [])) [AObj.box [AV.sl 1 false (bys r)]] from (by have h0 := (@Go.Cdc.want_c (AObj.box [AV.sl 1 false (bys r)]) ((↑(List.length r) : Int) == 0)); simp only [if_pos (show ((↑(List.length r) : Int) == 0) = true from decide_eq_true (by omega))] at h0; exact h0)), ko (Orc.dcall (AOut.ret AV.dead) [AObj.box [int (CV.k v), int (CV.n v), str (CV.s v), AV.sl 4 false (encL (CV.l v))], AObj.box [int 0], AObj.box [AV.sl 1 false (bys r)]]), kp (@Go.Cdc.def_ret (AObj.box [int (CV.k v), int (CV.n v), str (CV.s v), AV.sl 4 false (encL (CV.l v))]) (AObj.box [int 0]) (AObj.box [AV.sl 1 false (bys r)]))] (by kernel_rfl)

theorem dec_more (l r : List UInt8) (v : CV) (hr0 : 0 < r.length) (hv : CallC P G 57 [.ptr 0 0, int ((0 : Nat) : Int)] (rdr l) (.ret (val v)) (rdr r)) (h : True) : CallC P G 22 [byt l] [] (AOut.ret (AV.tup [val default, int 10])) [] := by
  have _ := h
  exact CallC.out ((show CallC P G 22 [byt l] [] (AOut.ret (AV.tup [AV.agg [int 0, int 0, str { data := #[] }, nilS], int 10])) [] from callC_of [kc [2] (@hv ), kv 16 (show Am.Sub (int (↑(List.length (bys r)) : Int)) (int (↑(List.length r) : Int)) from (Sub.of_eq (by simp only [Go.Cdc.bys_length]))), kc [2] (show CallC P G 58 [AV.ptr 0 0, Am.bool ((↑(List.length r) : Int) == 0)] [AObj.box [AV.sl 1 false (bys r)]] (AOut.pan (AV.ifc 33 (int 10))) [AObj.box [AV.sl 1 false (bys r)]] from (by have h0 := (@Go.Cdc.want_c (AObj.box [AV.sl 1 false (bys r)]) ((↑(List.length r) : Int) == 0)); simp only [if_neg (show ¬ (((↑(List.length r) : Int) == 0) = true) from Bool.eq_false_iff.1 (decide_eq_false (by omega)))] at h0; exact h0)), ko (Orc.dcall (AOut.ret AV.dead) [AObj.box [int 0, int 0, str { data := #[] }, nilS], AObj.box [int 10], AObj.box [AV.sl 1 false (bys r)]]), kp (@Go.Cdc.def_pan (int (CV.k v)) (int (CV.n v)) (str (CV.s v)) (AV.sl 4 false (encL (CV.l v))) (int 0) (AObj.box [AV.sl 1 false (bys r)]))] (by kernel_rfl))) (Sub.tups ⟨(Sub.aggs ⟨Sub.refl _, Sub.refl _, Sub.refl _, Sub.nil _, trivial⟩), Sub.refl _, trivial⟩)

theorem dec_bad (l : List UInt8) (hv : CallC P G 57 [.ptr 0 0, int ((0 : Nat) : Int)] (rdr l) (.pan badErr) [.gone]) (h : True) : CallC P G 22 [byt l] [] (AOut.ret (AV.tup [val default, int 10])) [] := by
  have _ := h
  exact CallC.out ((show CallC P G 22 [byt l] [] (AOut.ret (AV.tup [AV.agg [int 0, int 0, str { data := #[] }, nilS], int 10])) [] from callC_of [kc [2] (@hv ), ko (Orc.dcall (AOut.ret AV.dead) [AObj.box [int 0, int 0, str { data := #[] }, nilS], AObj.box [int 10], AObj.gone]), kp (@Go.Cdc.def_pan (int 0) (int 0) (str { data := #[] }) (nilS) (int 0) (AObj.gone))] (by kernel_rfl))) (Sub.tups ⟨(Sub.aggs ⟨Sub.refl _, Sub.refl _, Sub.refl _, Sub.nil _, trivial⟩), Sub.refl _, trivial⟩)

/-- The program's Decode: the value, the error. -/
def decB (l : List UInt8) : Bool := (valF 16 l).1 && (valF 16 l).2.2.isEmpty
def decV (l : List UInt8) : CV := if decB l = true then (valF 16 l).2.1 else default
def decE (l : List UInt8) : Int := if decB l = true then 0 else 10
theorem decode_c (l : List UInt8) (hl : l.length ≤ 1000000000) : CallC P G 22 [byt l] [] (.ret (.tup [val (decV l), int (decE l)])) [] := by
  have hv := (valF_reads 16 0 (by omega)).call l hl
  cases hok : (valF 16 l).1 with
  | false =>
    rw [hok] at hv
    simp only [Bool.false_eq_true, if_false] at hv
    have hb : decB l = false := by simp [decB, hok]
    simp only [decV, decE, hb, Bool.false_eq_true, if_false]
    exact dec_bad l hv trivial
  | true =>
    rw [hok] at hv
    simp only [if_true] at hv
    cases hr : (valF 16 l).2.2 with
    | nil =>
      have hb : decB l = true := by simp [decB, hok, hr]
      simp only [decV, decE, hb, if_true]
      rw [hr] at hv
      exact dec_ok l [] _ rfl hv trivial
    | cons c r =>
      have hb : decB l = false := by simp [decB, hok, hr]
      simp only [decV, decE, hb, Bool.false_eq_true, if_false]
      exact dec_more l _ _ (by rw [hr]; simp) hv trivial

end Go.Cdc

/- CODEC, 13: what the reference's reader reads, is what the program's reads. -/
namespace Go.Cdc
set_option maxRecDepth 100000
set_option linter.unusedSimpArgs false
set_option linter.unusedVariables false
open Go Go.Am Go.Proofs Go.Seat

end Go.Cdc

/- CODEC, 14: what a reader accepts is an encoding. -/
namespace Go.Cdc
set_option maxRecDepth 100000
set_option linter.unusedSimpArgs false
set_option linter.unusedVariables false
open Go Go.Am Go.Proofs Go.Seat

theorem num_numN (u : Nat) : num u = numN 9 u := (numN_eq 9 u).symm
theorem ofNat_toNat (c : UInt8) : UInt8.ofNat c.toNat = c := UInt8.toNat_inj.1 (by rw [UInt8.toNat_ofNat']; exact Nat.mod_eq_of_lt c.toNat_lt)
theorem numN_small {f u : Nat} (h : u < 128) : numN f u = [UInt8.ofNat u] := by
  cases f with
  | zero => rfl
  | succ f => simp only [numN]; rw [if_pos h]
theorem pow_step (i : Nat) : 2 ^ (7 * (i + 1)) = 128 * 2 ^ (7 * i) := by rw [Nat.mul_add, Nat.pow_add]; omega
theorem numF_sound : ∀ (l : List UInt8) (u i : Nat), i ≤ 9 → (numF l u i).1 = true → ∃ X : Nat, (numF l u i).2.1 = u + X * 2 ^ (7 * i) ∧ l = numN (9 - i) X ++ (numF l u i).2.2 ∧ (i ≠ 0 → X ≠ 0)
  | [], u, i, hi, h => by simp [numF] at h
  | c :: r, u, i, hi, h => by
    have hc8 : c.toNat < 256 := c.toNat_lt
    by_cases hbad : (i ≠ 0 ∧ c.toNat = 0) ∨ (9 ≤ i ∧ 1 < c.toNat)
    · simp only [numF] at h; rw [if_pos hbad] at h; cases h
    · by_cases hc : c.toNat < 128
      · have e : numF (c :: r) u i = (true, u + c.toNat % 128 * 2 ^ (7 * i), r) := by simp only [numF]; rw [if_neg hbad, if_pos hc]
        rw [e]
        refine ⟨c.toNat, by rw [Nat.mod_eq_of_lt hc], ?_, fun hi0 => by omega⟩
        rw [numN_small hc, ofNat_toNat]; rfl
      · have e : numF (c :: r) u i = numF r (u + c.toNat % 128 * 2 ^ (7 * i)) (i + 1) := by
          simp only [numF]; rw [if_neg hbad, if_neg hc]
        rw [e] at h ⊢
        have hi8 : i ≤ 8 := by omega
        obtain ⟨X, h1, h2, h3⟩ := numF_sound r (u + c.toNat % 128 * 2 ^ (7 * i)) (i + 1) (by omega) h
        refine ⟨c.toNat % 128 + 128 * X, ?_, ?_, fun _ => ?_⟩
        · rw [h1, pow_step, Nat.add_assoc, Nat.add_mul]
          congr 2
          rw [← Nat.mul_assoc, Nat.mul_comm X 128]
        · have hX := h3 (by omega)
          rw [show 9 - i = (9 - (i + 1)) + 1 by omega]
          simp only [numN]
          rw [if_neg (by omega), show (c.toNat % 128 + 128 * X) / 128 = X by omega, show (c.toNat % 128 + 128 * X) % 128 + 128 = c.toNat by omega, ofNat_toNat, List.cons_append, ← h2]
        · have := h3 (by omega); omega
theorem numOk_sound {l : List UInt8} (h : numOk l = true) : l = num (numU l) ++ numR l := by
  obtain ⟨X, h1, h2, _⟩ := numF_sound l 0 0 (by omega) h
  rw [num_numN]
  have : numU l = X := by
    unfold numU; rw [h1]; simp
  rw [this]
  exact h2
theorem numF_num : ∀ (f X u i : Nat) (r : List UInt8), f + i = 9 → X * 2 ^ (7 * i) < 18446744073709551616 → (i ≠ 0 → X ≠ 0) → numF (numN f X ++ r) u i = (true, u + X * 2 ^ (7 * i), r)
  | 0, X, u, i, r, hf, hX, h0 => by
    have hi : i = 9 := by omega
    subst hi
    have e9 : 2 ^ (7 * 9) = 9223372036854775808 := by decide
    rw [e9] at hX ⊢
    have hc : X < 2 := by omega
    have := h0 (by omega)
    have e : X = 1 := by omega
    subst e
    rfl
  | f + 1, X, u, i, r, hf, hX, h0 => by
    have hpos : 0 < 2 ^ (7 * i) := Nat.pow_pos (by decide)
    simp only [numN]
    by_cases hc : X < 128
    · rw [if_pos hc]
      have e : (UInt8.ofNat X).toNat = X := by rw [UInt8.toNat_ofNat']; exact Nat.mod_eq_of_lt (by omega)
      simp only [List.cons_append, List.nil_append, numF]
      rw [e, if_neg (by omega), if_pos hc, Nat.mod_eq_of_lt hc]
    · rw [if_neg hc]
      have e : (UInt8.ofNat (X % 128 + 128)).toNat = X % 128 + 128 := by rw [UInt8.toNat_ofNat']; exact Nat.mod_eq_of_lt (by omega)
      simp only [List.cons_append, numF]
      have hsplit : X * 2 ^ (7 * i) = X % 128 * 2 ^ (7 * i) + X / 128 * 2 ^ (7 * (i + 1)) := by
        rw [pow_step, ← Nat.mul_assoc, ← Nat.add_mul]
        congr 1
        omega
      rw [e, if_neg (by omega), if_neg (by omega), show (X % 128 + 128) % 128 = X % 128 by omega]
      rw [numF_num f (X / 128) _ (i + 1) r (by omega) (by omega) (fun _ => by omega), Nat.add_assoc, ← hsplit]
theorem numF_num0 (u : Nat) (hu : u < 18446744073709551616) (r : List UInt8) : numOk (num u ++ r) = true ∧ numU (num u ++ r) = u ∧ numR (num u ++ r) = r := by
  have := numF_num 9 u 0 0 r (by omega) (by simpa using hu) (fun h => absurd rfl h)
  rw [← num_numN] at this
  simp only [numOk, numU, numR, this]
  simp

theorem uns_sgn {u : Nat} : uns (sgn u) = u := by
  unfold sgn uns
  split
  · rw [if_pos (by omega)]; omega
  · rw [if_neg (by omega)]; omega
theorem sgn_uns (n : Int) : sgn (uns n) = n := by
  unfold uns
  split
  · unfold sgn; rw [if_pos (by omega)]; omega
  · unfold sgn; rw [if_neg (by omega)]; omega
theorem sgn_range {u : Nat} (h : u < 18446744073709551616) : -9223372036854775808 ≤ sgn u ∧ sgn u < 9223372036854775808 := by
  unfold sgn; split <;> omega

/-- A value read well. -/
structure Good (d : Nat) (l : List UInt8) (v : CV) (r : List UInt8) : Prop where
  wf : wf v = true
  dp : dp v ≤ d
  ok : Okv v
  eq : l = encB v ++ r
theorem wfL_of {l : List CV} (h : ∀ x ∈ l, wf x = true) : wfL l = true := by
  induction l with
  | nil => rfl
  | cons a l ih => simp only [wfL, Bool.and_eq_true]; exact ⟨h a List.mem_cons_self, ih fun x hx => h x (List.mem_cons_of_mem _ hx)⟩
theorem dpL_of {l : List CV} {d : Nat} (h : ∀ x ∈ l, dp x ≤ d) : dpL l ≤ d := by
  induction l with
  | nil => exact Nat.zero_le _
  | cons a l ih =>
    simp only [dpL]
    have := h a List.mem_cons_self
    have := ih fun x hx => h x (List.mem_cons_of_mem _ hx)
    omega
theorem lstF_sound {d : Nat} {p : List UInt8 → Bool × CV × List UInt8} (hp : ∀ l : List UInt8, l.length ≤ 1000000000 → (p l).1 = true → Good d l (p l).2.1 (p l).2.2) : ∀ (n : Nat) (r : List UInt8), r.length ≤ 1000000000 → (lstF p n r).1 = true →
    (∀ x ∈ (lstF p n r).2.1, wf x = true ∧ dp x ≤ d ∧ Okv x) ∧ r = encBL (lstF p n r).2.1 ++ (lstF p n r).2.2
  | 0, r, _, _ => ⟨fun x hx => by simp [lstF] at hx, rfl⟩
  | n + 1, r, hr, h => by
    cases hok : (p r).1 with
    | false => simp [lstF, hok] at h
    | true =>
      have e : lstF p (n + 1) r = ((lstF p n (p r).2.2).1, (p r).2.1 :: (lstF p n (p r).2.2).2.1, (lstF p n (p r).2.2).2.2) := by simp [lstF, hok]
      rw [e] at h ⊢
      have hg := hp r hr hok
      have hlen : (p r).2.2.length ≤ 1000000000 := by
        have := congrArg List.length hg.eq
        rw [List.length_append] at this; omega
      obtain ⟨k1, k2⟩ := lstF_sound hp n (p r).2.2 hlen h
      refine ⟨fun x hx => ?_, ?_⟩
      · rcases List.mem_cons.1 hx with rfl | hx
        · exact ⟨hg.wf, hg.dp, hg.ok⟩
        · exact k1 x hx
      · show r = encBL ((p r).2.1 :: _) ++ _
        rw [encBL_cons, List.append_assoc, ← k2]
        exact hg.eq
theorem size_arr (l : List UInt8) : (⟨l.toArray⟩ : ByteArray).size = l.length := by simp [ByteArray.size]
theorem valS_sound {d : Nat} {deep : Bool} {p : List UInt8 → Bool × CV × List UInt8} (hp : deep = true → 1 ≤ d ∧ ∀ l : List UInt8, l.length ≤ 1000000000 → (p l).1 = true → Good (d - 1) l (p l).2.1 (p l).2.2) :
    ∀ l : List UInt8, l.length ≤ 1000000000 → (valS deep p l).1 = true → Good d l (valS deep p l).2.1 (valS deep p l).2.2
  | [], _, h => by simp [valS] at h
  | c :: r, hl, h => by
    have hr : r.length ≤ 999999999 := by simp at hl; omega
    have hU := numU_lt r
    by_cases h1 : c.toNat = 1
    · have hc : c = 1 := byte_eq h1
      rw [valS_1 h1] at h ⊢
      subst hc
      have hs := numOk_sound h
      refine ⟨by simp [mkI, wf], by simp [mkI, dp], .mk _ _ _ _ (sgn_range hU) (by decide) (by decide) (fun x hx => by cases hx), ?_⟩
      have e1 : encB (mkI (sgn (numU r))) = 1 :: num (uns (sgn (numU r))) := by simp [encB, mkI]
      rw [e1, uns_sgn, List.cons_append, ← hs]
    · by_cases h2 : c.toNat = 2
      · have hc : c = 2 := byte_eq h2
        rw [valS_2 h2] at h ⊢
        subst hc
        have hle := lenOk_le h
        simp only [lenOk, Bool.and_eq_true] at h
        have hs := numOk_sound h.1
        have hR := numR_le r
        have hsz : (⟨((numR r).take (numU r)).toArray⟩ : ByteArray).size = numU r := by rw [size_arr, List.length_take]; omega
        refine ⟨by simp [mkT, wf], by simp [mkT, dp], .mk _ _ _ _ (by decide) (by rw [hsz]; omega) (by decide) (fun x hx => by cases hx), ?_⟩
        have e1 : encB (mkT ⟨((numR r).take (numU r)).toArray⟩) = 2 :: (num (numU r) ++ (numR r).take (numU r)) := by
          simp only [mkT, encB]
          rw [if_neg (by decide), if_pos trivial, hsz]
        rw [e1, List.cons_append, List.append_assoc, List.take_append_drop, ← hs]
      · by_cases h3 : c.toNat = 3
        · have hc : c = 3 := byte_eq h3
          rw [valS_3 h3] at h ⊢
          subst hc
          split at h
          · rename_i hcond
            rw [if_pos hcond]
            obtain ⟨hd, hok⟩ := hcond
            obtain ⟨hd1, hpp⟩ := hp hd
            have hle := lenOk_le hok
            simp only [lenOk, Bool.and_eq_true] at hok
            have hs := numOk_sound hok.1
            have hR := numR_le r
            obtain ⟨k1, k2⟩ := lstF_sound hpp (numU r) (numR r) (by omega) h
            have hlen := lstF_len _ _ h
            refine ⟨?_, ?_, .mk _ _ _ _ (by decide) (by decide) (by rw [hlen]; omega) (fun x hx => (k1 x hx).2.2), ?_⟩
            · have : wfL (lstF p (numU r) (numR r)).2.1 = true := wfL_of fun x hx => (k1 x hx).1
              simp [mkL, wf, this]
            · have : dpL (lstF p (numU r) (numR r)).2.1 ≤ d - 1 := dpL_of fun x hx => (k1 x hx).2.1
              simp only [mkL, dp, if_true]; omega
            · have e1 : encB (mkL (lstF p (numU r) (numR r)).2.1) = 3 :: (num (numU r) ++ encBL (lstF p (numU r) (numR r)).2.1) := by
                simp only [mkL, encB]
                rw [if_neg (by decide), if_neg (by decide), hlen]
              rw [e1, List.cons_append, List.append_assoc, ← k2, ← hs]
          · cases h
        · rw [valS_x h1 h2 h3] at h; cases h
theorem valF_sound : ∀ (f : Nat) (l : List UInt8), l.length ≤ 1000000000 → (valF f l).1 = true → Good f l (valF f l).2.1 (valF f l).2.2
  | 0, l, hl, h => valS_sound (d := 0) (fun h => by cases h) l hl h
  | f + 1, l, hl, h => valS_sound (d := f + 1) (fun _ => ⟨by omega, valF_sound f⟩) l hl h

end Go.Cdc

/- CODEC, 15: the reference's Decode; small functions; the examples. -/
namespace Go.Cdc
set_option maxRecDepth 100000
set_option linter.unusedSimpArgs false
set_option linter.unusedVariables false
open Go Go.Am Go.Proofs Go.Seat

theorem text_w (s : ByteArray) (h : True) : CallC P G 71 [str s] [] (AOut.ret (vmk 2 0 s [])) [] := by
  have _ := h
  exact CallC.out ((show CallC P G 71 [str s] [] (AOut.ret (AV.agg [int 2, int 0, str s, nilS])) [] from callC_of [] (by kernel_rfl))) (Sub.aggs ⟨Sub.refl _, Sub.refl _, Sub.refl _, Sub.nil _, trivial⟩)

theorem list_w (l : List CV) (h : True) : CallC P G 68 [AV.sl 4 false (encL l)] [] (AOut.ret (vmk 3 0 ByteArray.empty l)) [] := by
  have _ := h
  exact callC_of [] (by kernel_rfl)

end Go.Cdc

/- CODEC, 17: the statements hold. -/
namespace Go.Cdc
set_option maxRecDepth 100000
set_option linter.unusedSimpArgs false
set_option linter.unusedVariables false
open Go Go.Am Go.Proofs Go.Seat

/-! The reference's Decode -/
/-! Few parts -/
/-! The examples -/
theorem bad1 : decE [] = 10 ∧ decV [] = default := ⟨by rfl, by rfl⟩
/-! The statements -/
end Go.Cdc

/- OPS, 9: the reference's Encode. -/
namespace Go.Ops
set_option maxRecDepth 100000
set_option linter.unusedSimpArgs false
set_option linter.unusedVariables false
open Go Go.Am Go.Proofs Go.Seat Go.Vec Go.Cdc

/-! The reference's encoding -/
end Go.Ops
