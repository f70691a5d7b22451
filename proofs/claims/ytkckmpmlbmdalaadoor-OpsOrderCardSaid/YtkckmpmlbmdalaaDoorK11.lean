import Derived.Test.YtkckmpmlbmdalaaDoorK10
import Derived.Laws.Strings
import Derived.KernelRfl
/- CODEC, 0: how its data stand in the abstract machine. -/
namespace Go.Cdc
set_option maxRecDepth 100000
set_option linter.unusedSimpArgs false
set_option linter.unusedVariables false
open Go Go.Am Go.Proofs Go.Seat


/-- A value of the codec. -/
inductive CV where
  | mk (k n : Int) (s : ByteArray) (l : List CV)
instance : Inhabited CV := ⟨.mk 0 0 .empty []⟩
def CV.k : CV → Int | .mk k _ _ _ => k
def CV.n : CV → Int | .mk _ n _ _ => n
def CV.s : CV → ByteArray | .mk _ _ s _ => s
def CV.l : CV → List CV | .mk _ _ _ l => l
theorem CV.eta (v : CV) : CV.mk v.k v.n v.s v.l = v := by cases v; rfl
mutual
def CV.cells : CV → List AV
  | .mk k n s l => [int k, int n, str s, .sl 4 false (encL l)]
def encL : List CV → List (List AV)
  | [] => []
  | v :: l => v.cells :: encL l
end
def enc (v : CV) : List AV := [int v.k, int v.n, str v.s, .sl 4 false (encL v.l)]
theorem cells_eq (v : CV) : v.cells = enc v := by cases v; simp [CV.cells, enc, CV.k, CV.n, CV.s, CV.l]
theorem encL_map : ∀ l : List CV, encL l = l.map enc
  | [] => by simp [encL]
  | v :: l => by simp [encL, encL_map l, cells_eq]
def val (v : CV) : AV := .agg (enc v)
theorem encL_length (l : List CV) : (encL l).length = l.length := by simp [encL_map]
theorem encL_append (a b : List CV) : encL a ++ encL b = encL (a ++ b) := by simp [encL_map]
theorem encL_one (v : CV) : [enc v] = encL [v] := by simp [encL_map]
theorem encL_drop (v : List CV) (n : Nat) : List.drop n (encL v) = encL (v.drop n) := by simp [encL_map]
theorem encL_take (v : List CV) (n : Nat) : List.take n (encL v) = encL (v.take n) := by simp [encL_map]
theorem encL_pure (v : List CV) : ∀ c ∈ encL v, c.all AV.pureB = true := by
  intro c hc
  rw [encL_map] at hc
  obtain ⟨d, _, rfl⟩ := List.mem_map.1 hc
  rfl
theorem encL_ids (v : List CV) : ∀ c ∈ encL v, AV.idsInL [] c = true := by
  intro c hc
  rw [encL_map] at hc
  obtain ⟨d, _, rfl⟩ := List.mem_map.1 hc
  rfl
theorem encL_all (v : List CV) : List.take v.length (List.drop 0 (encL v)) = encL v := by rw [← encL_length v]; simp

/-- Two strings compared. -/
theorem str_eq (a b : ByteArray) : (ByteArray.toList a == ByteArray.toList b) = decide (a = b) := by
  rw [ByteArray.toList_eq, ByteArray.toList_eq]
  by_cases h : a = b
  · subst h; simp
  · rw [decide_eq_false h]
    refine beq_eq_false_iff_ne.2 fun e => h (ByteArray.ext (Array.toList_inj.1 e))
/-- A value's words, its parts apart. -/
abbrev vmk (k n : Int) (s : ByteArray) (l : List CV) : AV := .agg [int k, int n, str s, .sl 4 false (encL l)]
theorem val_mk (k n : Int) (s : ByteArray) (l : List CV) : val (.mk k n s l) = vmk k n s l := rfl

/-! Bytes -/
abbrev u8 (c : UInt8) : AV := .lit (.int .u8 c.toNat)
def byt1 (c : UInt8) : List AV := [u8 c]
def bys (l : List UInt8) : List (List AV) := l.map byt1
def byt (l : List UInt8) : AV := .sl 1 false (bys l)
theorem bys_length (l : List UInt8) : (bys l).length = l.length := by simp [bys]
theorem strB_ids (s : ByteArray) : ∀ c ∈ s.data.toList.map (fun c => [AV.lit (Value.int IntKind.u8 (c.toNat : Int))]), AV.idsInL [] c = true := by
  intro c hc
  obtain ⟨d, _, rfl⟩ := List.mem_map.1 hc
  rfl
theorem strB_pure (s : ByteArray) : ∀ c ∈ s.data.toList.map (fun c => [AV.lit (Value.int IntKind.u8 (c.toNat : Int))]), c.all AV.pureB = true := by
  intro c hc
  obtain ⟨d, _, rfl⟩ := List.mem_map.1 hc
  rfl
theorem bdata_length (s : ByteArray) : s.data.toList.length = s.size := rfl
theorem bys_append (a b : List UInt8) : bys a ++ bys b = bys (a ++ b) := by simp [bys]
theorem bys_drop (v : List UInt8) (n : Nat) : List.drop n (bys v) = bys (v.drop n) := by simp [bys]
theorem bys_take (v : List UInt8) (n : Nat) : List.take n (bys v) = bys (v.take n) := by simp [bys]
theorem bys_pure (v : List UInt8) : ∀ c ∈ bys v, c.all AV.pureB = true := by
  intro c hc
  obtain ⟨d, _, rfl⟩ := List.mem_map.1 hc
  rfl
theorem bys_ids (v : List UInt8) : ∀ c ∈ bys v, AV.idsInL [] c = true := by
  intro c hc
  obtain ⟨d, _, rfl⟩ := List.mem_map.1 hc
  rfl
theorem bys_all (v : List UInt8) : List.take v.length (List.drop 0 (bys v)) = bys v := by rw [← bys_length v]; simp
abbrev u64 (n : Nat) : AV := .lit (.int .u64 n)
/-- The reader, its box at 0. -/
def rdr (l : List UInt8) : List AObj := [.box [byt l]]
def badErr : AV := .ifc 33 (int 10)
end Go.Cdc

/- OPS, 1: operations as data; what an operation knows; its kind's fields, in both packages. -/
namespace Go.Ops
set_option maxRecDepth 100000
set_option linter.unusedSimpArgs false
set_option linter.unusedVariables false
open Go Go.Am Go.Proofs Go.Seat Go.Vec Go.Cdc

/-- An operation. -/
structure OP where
  dv : Int
  sq : Int
  tm : Int
  cx : List D
  pk : Int
  pn : ByteArray
  kd : Int
  f1 : Int
  f2 : Int
  f3 : Int
  t1 : Int
  t2 : Int
  t3 : Int
  ky : ByteArray
  vl : ByteArray
  n : Int
  on : Bool
  deriving DecidableEq
def opc (o : OP) : List AV := [int o.dv, int o.sq, int o.tm, vec o.cx, int o.pk, str o.pn, int o.kd, int o.f1, int o.f2, int o.f3, int o.t1, int o.t2, int o.t3, str o.ky, str o.vl, int o.n, bool o.on]
def op (o : OP) : AV := .agg (opc o)
def opk (o : OP) (k : Int) : AV := .agg [int o.dv, int o.sq, int o.tm, vec o.cx, int o.pk, str o.pn, int k, int o.f1, int o.f2, int o.f3, int o.t1, int o.t2, int o.t3, str o.ky, str o.vl, int o.n, bool o.on]
theorem opk_op (o : OP) (k : Int) (h : o.kd = k) : opk o k = op o := by subst h; rfl
abbrev ida (a b c : Int) : AV := .agg [int a, int b, int c]

/-! What is known -/
def idB (a b c : Int) : Bool := decide (a ≥ 0) && decide (a < 512) && decide (b ≥ 1) && decide (b ≤ 1048576) && decide (c ≥ 0) && decide (c ≤ 63)
def knowsB (o : OP) (a b c : Int) : Bool := idB a b c && (coversB o.cx (a, b) || (decide (a = o.dv) && decide (b < o.sq)))

theorem knows_w (o : OP) (a b c : Int) (hc : o.cx.length ≤ 1000000000) (h : (((a < (0 : Int)) → (false) = (knowsB o a b c)) ∧ ((¬a < (0 : Int)) → (((a ≥ (512 : Int)) → (false) = (knowsB o a b c)) ∧ ((¬a ≥ (512 : Int)) → (((b < (1 : Int)) → (false) = (knowsB o a b c)) ∧ ((¬b < (1 : Int)) → (((b > (1048576 : Int)) → (false) = (knowsB o a b c)) ∧ ((¬b > (1048576 : Int)) → (((c < (0 : Int)) → (false) = (knowsB o a b c)) ∧ ((¬c < (0 : Int)) → (((c > (63 : Int)) → (false) = (knowsB o a b c)) ∧ ((¬c > (63 : Int)) → ((((coversB (OP.cx o) (a, b)) = true) → (true) = (knowsB o a b c)) ∧ (((coversB (OP.cx o) (a, b)) = false) → (((a = OP.dv o) → (decide (b < OP.sq o)) = (knowsB o a b c)) ∧ ((¬a = OP.dv o) → (false) = (knowsB o a b c)))))))))))))))))) : CallC P G 118 [op o, ida a b c] [] (AOut.ret (Am.bool (knowsB o a b c))) [] := by
  by_cases c1 : (a < (0 : Int))
  · have h := h.1 c1
    have e1 := h
    exact callC_out (Sub.bool_eq e1) [kt (decide_eq_true c1), kt (Eq.refl true), kt (Eq.refl true), kt (Eq.refl true), kt (Eq.refl true), kt (Eq.refl true)] (by kernel_rfl)
  · have h := h.2 c1
    by_cases c2 : (a ≥ (512 : Int))
    · have h := h.1 c2
      have e1 := h
      exact callC_out (Sub.bool_eq e1) [kf (decide_eq_false c1), kt (decide_eq_true c2), kt (Eq.refl true), kt (Eq.refl true), kt (Eq.refl true), kt (Eq.refl true)] (by kernel_rfl)
    · have h := h.2 c2
      by_cases c3 : (b < (1 : Int))
      · have h := h.1 c3
        have e1 := h
        exact callC_out (Sub.bool_eq e1) [kf (decide_eq_false c1), kf (decide_eq_false c2), kt (decide_eq_true c3), kt (Eq.refl true), kt (Eq.refl true), kt (Eq.refl true)] (by kernel_rfl)
      · have h := h.2 c3
        by_cases c4 : (b > (1048576 : Int))
        · have h := h.1 c4
          have e1 := h
          exact callC_out (Sub.bool_eq e1) [kf (decide_eq_false c1), kf (decide_eq_false c2), kf (decide_eq_false c3), kt (decide_eq_true c4), kt (Eq.refl true), kt (Eq.refl true)] (by kernel_rfl)
        · have h := h.2 c4
          by_cases c5 : (c < (0 : Int))
          · have h := h.1 c5
            have e1 := h
            exact callC_out (Sub.bool_eq e1) [kf (decide_eq_false c1), kf (decide_eq_false c2), kf (decide_eq_false c3), kf (decide_eq_false c4), kt (decide_eq_true c5), kt (Eq.refl true)] (by kernel_rfl)
          · have h := h.2 c5
            by_cases c6 : (c > (63 : Int))
            · have h := h.1 c6
              have e1 := h
              exact callC_out (Sub.bool_eq e1) [kf (decide_eq_false c1), kf (decide_eq_false c2), kf (decide_eq_false c3), kf (decide_eq_false c4), kf (decide_eq_false c5), kt (decide_eq_true c6)] (by kernel_rfl)
            · have h := h.2 c6
              have hz0 := (@Go.Vec.covers_c (OP.cx o) (a) (b) (by omega))
              rcases Bool.eq_false_or_eq_true ((coversB (OP.cx o) (a, b))) with c7 | c7
              · have h := h.1 c7
                have e1 := h
                exact callC_out (Sub.bool_eq e1) [kf (decide_eq_false c1), kf (decide_eq_false c2), kf (decide_eq_false c3), kf (decide_eq_false c4), kf (decide_eq_false c5), kf (decide_eq_false c6), kc [] hz0, kt c7] (by kernel_rfl)
              · have h := h.2 c7
                by_cases c8 : (a = OP.dv o)
                · have h := h.1 c8
                  have e1 := h
                  exact callC_out (Sub.bool_eq e1) [kf (decide_eq_false c1), kf (decide_eq_false c2), kf (decide_eq_false c3), kf (decide_eq_false c4), kf (decide_eq_false c5), kf (decide_eq_false c6), kc [] hz0, kf c7, kt (beq_iff_eq.2 c8)] (by kernel_rfl)
                · have h := h.2 c8
                  have e1 := h
                  exact callC_out (Sub.bool_eq e1) [kf (decide_eq_false c1), kf (decide_eq_false c2), kf (decide_eq_false c3), kf (decide_eq_false c4), kf (decide_eq_false c5), kf (decide_eq_false c6), kc [] hz0, kf c7, kf (beq_eq_false_iff_ne.2 c8)] (by kernel_rfl)

theorem knows_c (o : OP) (a b c : Int) (hc : o.cx.length ≤ 1000000000) : CallC P G 118 [op o, ida a b c] [] (.ret (bool (knowsB o a b c))) [] := knows_w o a b c hc (by
  unfold knowsB idB
  repeat' (first | refine And.intro ?_ ?_ | intro _)
  all_goals grind)

theorem vid_w (a b c : Int) (h : (((a ≥ (0 : Int)) → (((a < (512 : Int)) → (((b ≥ (1 : Int)) → (((b ≤ (1048576 : Int)) → (((c ≥ (0 : Int)) → (decide (c ≤ (63 : Int))) = (idB a b c)) ∧ ((¬c ≥ (0 : Int)) → (false) = (idB a b c)))) ∧ ((¬b ≤ (1048576 : Int)) → (false) = (idB a b c)))) ∧ ((¬b ≥ (1 : Int)) → (false) = (idB a b c)))) ∧ ((¬a < (512 : Int)) → (false) = (idB a b c)))) ∧ ((¬a ≥ (0 : Int)) → (false) = (idB a b c)))) : CallC P G 91 [ida a b c] [] (AOut.ret (Am.bool (idB a b c))) [] := by
  by_cases c1 : (a ≥ (0 : Int))
  · have h := h.1 c1
    by_cases c2 : (a < (512 : Int))
    · have h := h.1 c2
      by_cases c3 : (b ≥ (1 : Int))
      · have h := h.1 c3
        by_cases c4 : (b ≤ (1048576 : Int))
        · have h := h.1 c4
          by_cases c5 : (c ≥ (0 : Int))
          · have h := h.1 c5
            have e1 := h
            exact callC_out (Sub.bool_eq e1) [kt (decide_eq_true c1), kt (decide_eq_true c2), kt (decide_eq_true c3), kt (decide_eq_true c4), kt (decide_eq_true c5)] (by kernel_rfl)
          · have h := h.2 c5
            have e1 := h
            exact callC_out (Sub.bool_eq e1) [kt (decide_eq_true c1), kt (decide_eq_true c2), kt (decide_eq_true c3), kt (decide_eq_true c4), kf (decide_eq_false c5)] (by kernel_rfl)
        · have h := h.2 c4
          have e1 := h
          exact callC_out (Sub.bool_eq e1) [kt (decide_eq_true c1), kt (decide_eq_true c2), kt (decide_eq_true c3), kf (decide_eq_false c4), kf (Eq.refl false)] (by kernel_rfl)
      · have h := h.2 c3
        have e1 := h
        exact callC_out (Sub.bool_eq e1) [kt (decide_eq_true c1), kt (decide_eq_true c2), kf (decide_eq_false c3), kf (Eq.refl false), kf (Eq.refl false)] (by kernel_rfl)
    · have h := h.2 c2
      have e1 := h
      exact callC_out (Sub.bool_eq e1) [kt (decide_eq_true c1), kf (decide_eq_false c2), kf (Eq.refl false), kf (Eq.refl false), kf (Eq.refl false)] (by kernel_rfl)
  · have h := h.2 c1
    have e1 := h
    exact callC_out (Sub.bool_eq e1) [kf (decide_eq_false c1), kf (Eq.refl false), kf (Eq.refl false), kf (Eq.refl false), kf (Eq.refl false)] (by kernel_rfl)

theorem vid_c (a b c : Int) : CallC P G 91 [ida a b c] [] (.ret (bool (idB a b c))) [] := vid_w a b c (by
  unfold idB
  grind)

theorem rknows_w (o : OP) (a b c : Int) (hc : o.cx.length ≤ 1000000000) (h : ((((idB a b c) = true) → ((((coversB (OP.cx o) (a, b)) = true) → (true) = (knowsB o a b c)) ∧ (((coversB (OP.cx o) (a, b)) = false) → (((a = OP.dv o) → (decide (b < OP.sq o)) = (knowsB o a b c)) ∧ ((¬a = OP.dv o) → (false) = (knowsB o a b c)))))) ∧ (((idB a b c) = false) → (false) = (knowsB o a b c)))) : CallC P G 65 [op o, ida a b c] [] (AOut.ret (Am.bool (knowsB o a b c))) [] := by
  have hz0 := (@Go.Ops.vid_c (a) (b) (c))
  rcases Bool.eq_false_or_eq_true ((idB a b c)) with c1 | c1
  · have h := h.1 c1
    have hz1 : (!idB a b c) = false := (congrArg Bool.not (c1))
    have hz2 := (@Go.Vec.rcovers_c (OP.cx o) (a) (b) (by omega))
    rcases Bool.eq_false_or_eq_true ((coversB (OP.cx o) (a, b))) with c2 | c2
    · have h := h.1 c2
      have e1 := h
      exact callC_out (Sub.bool_eq e1) [kc [] hz0, kf hz1, kc [] hz2, kt c2] (by kernel_rfl)
    · have h := h.2 c2
      by_cases c3 : (a = OP.dv o)
      · have h := h.1 c3
        have e1 := h
        exact callC_out (Sub.bool_eq e1) [kc [] hz0, kf hz1, kc [] hz2, kf c2, kt (beq_iff_eq.2 c3)] (by kernel_rfl)
      · have h := h.2 c3
        have e1 := h
        exact callC_out (Sub.bool_eq e1) [kc [] hz0, kf hz1, kc [] hz2, kf c2, kf (beq_eq_false_iff_ne.2 c3)] (by kernel_rfl)
  · have h := h.2 c1
    have e1 := h
    exact callC_out (Sub.bool_eq e1) [kc [] hz0, kt (show (!idB a b c) = true from (congrArg Bool.not (c1)))] (by kernel_rfl)

theorem rknows_c (o : OP) (a b c : Int) (hc : o.cx.length ≤ 1000000000) : CallC P G 65 [op o, ida a b c] [] (.ret (bool (knowsB o a b c))) [] := rknows_w o a b c hc (by
  unfold knowsB
  grind)

def beginsB (o : OP) : Bool := (decide (o.f1 = 0) && decide (o.f2 = 0) && decide (o.f3 = 0)) || knowsB o o.f1 o.f2 o.f3

theorem begins_w (o : OP) (hc : o.cx.length ≤ 1000000000) (h : ((((OP.f1 o == 0 && (OP.f2 o == 0 && OP.f3 o == 0)) = true) → (true) = (beginsB o)) ∧ (((OP.f1 o == 0 && (OP.f2 o == 0 && OP.f3 o == 0)) = false) → (knowsB o (OP.f1 o) (OP.f2 o) (OP.f3 o)) = (beginsB o)))) : CallC P G 116 [op o] [] (AOut.ret (Am.bool (beginsB o))) [] := by
  rcases Bool.eq_false_or_eq_true ((OP.f1 o == 0 && (OP.f2 o == 0 && OP.f3 o == 0))) with c1 | c1
  · have h := h.1 c1
    have e1 := h
    exact callC_out (Sub.bool_eq e1) [kt c1] (by kernel_rfl)
  · have h := h.2 c1
    have e1 := h
    exact callC_out (Sub.bool_eq e1) [kf c1, kc [] (@Go.Ops.knows_c (o) (OP.f1 o) (OP.f2 o) (OP.f3 o) (by omega))] (by kernel_rfl)

theorem begins_c (o : OP) (hc : o.cx.length ≤ 1000000000) : CallC P G 116 [op o] [] (.ret (bool (beginsB o))) [] := begins_w o hc (by
  unfold beginsB
  grind)

/-! Fields -/
def fieldsB (o : OP) : Int → Bool
  | 1 => beginsB o && decide ((o.vl.size : Int) ≤ 4096)
  | 2 => knowsB o o.f1 o.f2 o.f3
  | 3 => decide ((o.ky.size : Int) ≤ 64) && decide ((o.vl.size : Int) ≤ 4096)
  | 4 => decide ((o.ky.size : Int) ≤ 64)
  | 5 => decide (o.n ≥ -1125899906842624) && decide (o.n ≤ 1125899906842624)
  | 6 => beginsB o && decide ((o.vl.size : Int) ≥ 1) && decide ((o.vl.size : Int) ≤ 64)
  | 7 => knowsB o o.f1 o.f2 o.f3 && decide (o.n ≥ 1) && decide (o.n ≤ 64 - o.f3)
  | 8 => knowsB o o.f1 o.f2 o.f3 && knowsB o o.t1 o.t2 o.t3 && decide (o.n ≥ 0) && decide (o.n ≤ 15)
  | _ => false

theorem k1_w (o : OP) (hc : o.cx.length ≤ 1000000000) (h : ((((beginsB o) = true) → (decide ((↑(ByteArray.size (OP.vl o)) : Int) ≤ (4096 : Int))) = (fieldsB o 1)) ∧ (((beginsB o) = false) → (false) = (fieldsB o 1)))) : CallC P G 115 [op o] [] (AOut.ret (Am.bool (fieldsB o 1))) [] := by
  have hz0 := (@Go.Ops.begins_c (o) (by omega))
  rcases Bool.eq_false_or_eq_true ((beginsB o)) with c1 | c1
  · have h := h.1 c1
    have e1 := h
    exact callC_out (Sub.bool_eq e1) [kc [] hz0, kt c1] (by kernel_rfl)
  · have h := h.2 c1
    have e1 := h
    exact callC_out (Sub.bool_eq e1) [kc [] hz0, kf c1] (by kernel_rfl)

theorem k2_w (o : OP) (hc : o.cx.length ≤ 1000000000) (h : True) : CallC P G 117 [op o] [] (AOut.ret (Am.bool (fieldsB o 2))) [] := by
  have _ := h
  exact callC_of [kc [] (@Go.Ops.knows_c (o) (OP.f1 o) (OP.f2 o) (OP.f3 o) (by omega))] (by kernel_rfl)

theorem k3_w (o : OP) (h : ((((↑(ByteArray.size (OP.ky o)) : Int) ≤ (64 : Int)) → (decide ((↑(ByteArray.size (OP.vl o)) : Int) ≤ (4096 : Int))) = (fieldsB o 3)) ∧ ((¬(↑(ByteArray.size (OP.ky o)) : Int) ≤ (64 : Int)) → (false) = (fieldsB o 3)))) : CallC P G 119 [op o] [] (AOut.ret (Am.bool (fieldsB o 3))) [] := by
  by_cases c1 : ((↑(ByteArray.size (OP.ky o)) : Int) ≤ (64 : Int))
  · have h := h.1 c1
    have e1 := h
    exact callC_out (Sub.bool_eq e1) [kt (decide_eq_true c1)] (by kernel_rfl)
  · have h := h.2 c1
    have e1 := h
    exact callC_out (Sub.bool_eq e1) [kf (decide_eq_false c1)] (by kernel_rfl)

theorem k4_w (o : OP) (h : True) : CallC P G 120 [op o] [] (AOut.ret (Am.bool (fieldsB o 4))) [] := by
  have _ := h
  exact callC_of [] (by kernel_rfl)

theorem k5_w (o : OP) (h : (((OP.n o ≥ (-1125899906842624 : Int)) → (decide (OP.n o ≤ (1125899906842624 : Int))) = (fieldsB o 5)) ∧ ((¬OP.n o ≥ (-1125899906842624 : Int)) → (false) = (fieldsB o 5)))) : CallC P G 121 [op o] [] (AOut.ret (Am.bool (fieldsB o 5))) [] := by
  by_cases c1 : (OP.n o ≥ (-1125899906842624 : Int))
  · have h := h.1 c1
    have e1 := h
    exact callC_out (Sub.bool_eq e1) [kt (decide_eq_true c1)] (by kernel_rfl)
  · have h := h.2 c1
    have e1 := h
    exact callC_out (Sub.bool_eq e1) [kf (decide_eq_false c1)] (by kernel_rfl)

theorem k6_w (o : OP) (hc : o.cx.length ≤ 1000000000) (h : ((((beginsB o) = true) → ((((↑(ByteArray.size (OP.vl o)) : Int) ≥ (1 : Int)) → (decide ((↑(ByteArray.size (OP.vl o)) : Int) ≤ (64 : Int))) = (fieldsB o 6)) ∧ ((¬(↑(ByteArray.size (OP.vl o)) : Int) ≥ (1 : Int)) → (false) = (fieldsB o 6)))) ∧ (((beginsB o) = false) → (false) = (fieldsB o 6)))) : CallC P G 122 [op o] [] (AOut.ret (Am.bool (fieldsB o 6))) [] := by
  have hz0 := (@Go.Ops.begins_c (o) (by omega))
  rcases Bool.eq_false_or_eq_true ((beginsB o)) with c1 | c1
  · have h := h.1 c1
    by_cases c2 : ((↑(ByteArray.size (OP.vl o)) : Int) ≥ (1 : Int))
    · have h := h.1 c2
      have e1 := h
      exact callC_out (Sub.bool_eq e1) [kc [] hz0, kt c1, kt (decide_eq_true c2)] (by kernel_rfl)
    · have h := h.2 c2
      have e1 := h
      exact callC_out (Sub.bool_eq e1) [kc [] hz0, kt c1, kf (decide_eq_false c2)] (by kernel_rfl)
  · have h := h.2 c1
    have e1 := h
    exact callC_out (Sub.bool_eq e1) [kc [] hz0, kf c1, kf (Eq.refl false)] (by kernel_rfl)

theorem k7_w (o : OP) (hc : o.cx.length ≤ 1000000000) (h3 : -9223372036854775808 ≤ o.f3 ∧ o.f3 < 9223372036854775808) (h : ((((knowsB o (OP.f1 o) (OP.f2 o) (OP.f3 o)) = true) → (((OP.n o ≥ (1 : Int)) → (decide (OP.n o ≤ IntKind.wrap IntKind.i64 (64 - OP.f3 o))) = (fieldsB o 7)) ∧ ((¬OP.n o ≥ (1 : Int)) → (false) = (fieldsB o 7)))) ∧ (((knowsB o (OP.f1 o) (OP.f2 o) (OP.f3 o)) = false) → (false) = (fieldsB o 7)))) : CallC P G 123 [op o] [] (AOut.ret (Am.bool (fieldsB o 7))) [] := by
  have hz0 := (@Go.Ops.knows_c (o) (OP.f1 o) (OP.f2 o) (OP.f3 o) (by omega))
  rcases Bool.eq_false_or_eq_true ((knowsB o (OP.f1 o) (OP.f2 o) (OP.f3 o))) with c1 | c1
  · have h := h.1 c1
    by_cases c2 : (OP.n o ≥ (1 : Int))
    · have h := h.1 c2
      have e1 := h
      exact callC_out (Sub.bool_eq e1) [kc [] hz0, kt c1, kt (decide_eq_true c2)] (by kernel_rfl)
    · have h := h.2 c2
      have e1 := h
      exact callC_out (Sub.bool_eq e1) [kc [] hz0, kt c1, kf (decide_eq_false c2)] (by kernel_rfl)
  · have h := h.2 c1
    have e1 := h
    exact callC_out (Sub.bool_eq e1) [kc [] hz0, kf c1, kf (Eq.refl false)] (by kernel_rfl)

theorem k8_w (o : OP) (hc : o.cx.length ≤ 1000000000) (h : ((((knowsB o (OP.f1 o) (OP.f2 o) (OP.f3 o)) = true) → ((((knowsB o (OP.t1 o) (OP.t2 o) (OP.t3 o)) = true) → (((OP.n o ≥ (0 : Int)) → (decide (OP.n o ≤ (15 : Int))) = (fieldsB o 8)) ∧ ((¬OP.n o ≥ (0 : Int)) → (false) = (fieldsB o 8)))) ∧ (((knowsB o (OP.t1 o) (OP.t2 o) (OP.t3 o)) = false) → (false) = (fieldsB o 8)))) ∧ (((knowsB o (OP.f1 o) (OP.f2 o) (OP.f3 o)) = false) → (false) = (fieldsB o 8)))) : CallC P G 124 [op o] [] (AOut.ret (Am.bool (fieldsB o 8))) [] := by
  have hz0 := (@Go.Ops.knows_c (o) (OP.f1 o) (OP.f2 o) (OP.f3 o) (by omega))
  rcases Bool.eq_false_or_eq_true ((knowsB o (OP.f1 o) (OP.f2 o) (OP.f3 o))) with c1 | c1
  · have h := h.1 c1
    have hz1 := (@Go.Ops.knows_c (o) (OP.t1 o) (OP.t2 o) (OP.t3 o) (by omega))
    rcases Bool.eq_false_or_eq_true ((knowsB o (OP.t1 o) (OP.t2 o) (OP.t3 o))) with c2 | c2
    · have h := h.1 c2
      by_cases c3 : (OP.n o ≥ (0 : Int))
      · have h := h.1 c3
        have e1 := h
        exact callC_out (Sub.bool_eq e1) [kc [] hz0, kt c1, kc [] hz1, kt c2, kt (decide_eq_true c3)] (by kernel_rfl)
      · have h := h.2 c3
        have e1 := h
        exact callC_out (Sub.bool_eq e1) [kc [] hz0, kt c1, kc [] hz1, kt c2, kf (decide_eq_false c3)] (by kernel_rfl)
    · have h := h.2 c2
      have e1 := h
      exact callC_out (Sub.bool_eq e1) [kc [] hz0, kt c1, kc [] hz1, kf c2, kf (Eq.refl false)] (by kernel_rfl)
  · have h := h.2 c1
    have e1 := h
    exact callC_out (Sub.bool_eq e1) [kc [] hz0, kf c1, kf (Eq.refl false), kf (Eq.refl false)] (by kernel_rfl)

theorem k1_c (o : OP) (hc : o.cx.length ≤ 1000000000) : CallC P G 115 [op o] [] (.ret (bool (fieldsB o 1))) [] := k1_w o hc (by simp only [fieldsB]; exact ⟨fun h => by simp [h], fun h => by simp [h]⟩)
theorem k2_c (o : OP) (hc : o.cx.length ≤ 1000000000) : CallC P G 117 [op o] [] (.ret (bool (fieldsB o 2))) [] := k2_w o hc trivial
theorem k3_c (o : OP) : CallC P G 119 [op o] [] (.ret (bool (fieldsB o 3))) [] := k3_w o (by simp only [fieldsB]; exact ⟨fun h => by simp [h], fun h => by simp [h]⟩)
theorem k4_c (o : OP) : CallC P G 120 [op o] [] (.ret (bool (fieldsB o 4))) [] := k4_w o trivial
theorem k5_c (o : OP) : CallC P G 121 [op o] [] (.ret (bool (fieldsB o 5))) [] := k5_w o (by simp only [fieldsB]; exact ⟨fun h => by simp [h], fun h => by simp [h]⟩)
theorem k6_c (o : OP) (hc : o.cx.length ≤ 1000000000) : CallC P G 122 [op o] [] (.ret (bool (fieldsB o 6))) [] := k6_w o hc (by simp only [fieldsB]; exact ⟨fun h => ⟨fun h2 => by simp [h, h2], fun h2 => by simp [h, h2]⟩, fun h => by simp [h]⟩)
theorem knowsB_at {o : OP} {a b c : Int} (h : knowsB o a b c = true) : 0 ≤ c ∧ c ≤ 63 := by
  unfold knowsB idB at h
  grind
theorem k7_c (o : OP) (hc : o.cx.length ≤ 1000000000) (h3 : -9223372036854775808 ≤ o.f3 ∧ o.f3 < 9223372036854775808) : CallC P G 123 [op o] [] (.ret (bool (fieldsB o 7))) [] := k7_w o hc h3 (by
  simp only [fieldsB]
  refine ⟨fun h => ?_, fun h => by simp [h]⟩
  have := knowsB_at h
  rw [Am.wrap_ok (by omega) (by omega)]
  exact ⟨fun h2 => by simp [h, h2], fun h2 => by simp [h, h2]⟩)
theorem k8_c (o : OP) (hc : o.cx.length ≤ 1000000000) : CallC P G 124 [op o] [] (.ret (bool (fieldsB o 8))) [] := k8_w o hc (by
  simp only [fieldsB]
  exact ⟨fun h => ⟨fun h1 => ⟨fun h2 => by simp [h, h1, h2], fun h2 => by simp [h, h1, h2]⟩, fun h1 => by simp [h, h1]⟩, fun h => by simp [h]⟩)

end Go.Ops

/- OPS, 2: whether operations are the same; what an operation has besides what its kind uses. -/
namespace Go.Ops
set_option maxRecDepth 100000
set_option linter.unusedSimpArgs false
set_option linter.unusedVariables false
open Go Go.Am Go.Proofs Go.Seat Go.Vec Go.Cdc

def eqSt (a b : List D) (k : Nat) : St := { env := slots 26 [(0, vec a), (1, vec b), (4, bool false), (11, vec a), (12, int a.length), (13, int k)], H := [] }

theorem eq_w (a b : List D) (k : Nat) (ha : a.length ≤ 1000000000) (hb : b.length = a.length) (ex : AEx) (r : Bool) (h : ((((↑k : Int) < (↑(List.length a) : Int)) → (∃ x2 : D, (a[k]? = some x2) ∧ (∃ x4 : D, (b[k]? = some x4) ∧ ((((Prod.fst x2 == Prod.fst x4 && Prod.snd x2 == Prod.snd x4) = true) → RunL P G none 0 (loopAt P 42 0) { env := slots 26 [(0, AV.sl 2 false (encs a)), (1, AV.sl 2 false (encs b)), (4, Am.bool false), (11, AV.sl 2 false (encs a)), (12, int (↑(List.length a) : Int)), (13, int (↑(k + 1) : Int))], H := [] } ex { env := slots 26 [(4, Am.bool r)], H := [] }) ∧ (((Prod.fst x2 == Prod.fst x4 && Prod.snd x2 == Prod.snd x4) = false) → (AEx.ret = ex) ∧ ((false) = (r))))))) ∧ ((¬(↑k : Int) < (↑(List.length a) : Int)) → (AEx.exit 0 = ex) ∧ ((false) = (r))))) : RunL P G none 0 (loopAt P 42 0) (eqSt a b k) ex { env := slots 26 [(4, Am.bool r)], H := [] } := by
  by_cases c1 : ((↑k : Int) < (↑(List.length a) : Int))
  · have h := h.1 c1
    obtain ⟨x2, o3, h⟩ := h
    have hz0 : (0 : Int) ≤ (↑k : Int) ∧ (encs a)[Int.toNat (↑k : Int)]? = some (Vec.enc x2) := (el_nat o3)
    obtain ⟨x4, o5, h⟩ := h
    have hz1 : (0 : Int) ≤ (↑k : Int) ∧ (encs b)[Int.toNat (↑k : Int)]? = some (Vec.enc x4) := (el_nat o5)
    rcases Bool.eq_false_or_eq_true ((Prod.fst x2 == Prod.fst x4 && Prod.snd x2 == Prod.snd x4)) with c6 | c6
    · have h := h.1 c6
      exact loop_next [kt (decide_eq_true c1), ko (Orc.elem (Vec.enc x2)), ko (Orc.elem (Vec.enc x4)), kp hz0, kp hz1, kf (show (!(Prod.fst x2 == Prod.fst x4 && Prod.snd x2 == Prod.snd x4)) = false from (congrArg Bool.not (c6))), kv 25 (show Am.Sub (int (IntKind.wrap IntKind.i64 ((↑k : Int) + 1))) (int (↑(k + 1) : Int)) from (Sub.of_wrap (by omega) (by omega) (by omega)))] (others 26 [0, 1, 4, 11, 12, 13]) 0 h (by kernel_rfl)
    · have h := h.2 c6
      obtain ⟨eX, e1⟩ := h
      exact RunL.to ((show RunL P G none 0 (loopAt P 42 0) (eqSt a b k) AEx.ret { env := slots 26 [(4, Am.bool false)], H := [] } from loop_exit [kt (decide_eq_true c1), ko (Orc.elem (Vec.enc x2)), ko (Orc.elem (Vec.enc x4)), kp hz0, kp hz1, kt (show (!(Prod.fst x2 == Prod.fst x4 && Prod.snd x2 == Prod.snd x4)) = true from (congrArg Bool.not (c6)))] (others 26 [4]) 0 (by kernel_rfl))) eX (SubS.slots ⟨rfl, (Sub.bool_eq e1), trivial⟩)
  · have h := h.2 c1
    obtain ⟨eX, e1⟩ := h
    exact RunL.to ((show RunL P G none 0 (loopAt P 42 0) (eqSt a b k) (AEx.exit 0) { env := slots 26 [(4, Am.bool false)], H := [] } from loop_exit [kf (decide_eq_false c1)] (others 26 [4]) 0 (by kernel_rfl))) eX (SubS.slots ⟨rfl, (Sub.bool_eq e1), trivial⟩)

theorem eq_loop (a b : List D) (ha : a.length ≤ 1000000000) (hb : b.length = a.length) : ∀ n k, a.length - k = n → k ≤ a.length →
    RunL P G none 0 (loopAt P 42 0) (eqSt a b k) (if a.drop k = b.drop k then .exit 0 else .ret) { env := slots 26 [(4, bool false)], H := [] } := by
  intro n
  induction n with
  | zero =>
    intro k hn hk
    have e : a.drop k = b.drop k := by rw [List.drop_of_length_le (by omega), List.drop_of_length_le (by omega)]
    exact eq_w a b k ha hb _ _ ⟨fun h => absurd h (by omega), fun _ => ⟨by rw [if_pos e], rfl⟩⟩
  | succ n ih =>
    intro k hn hk
    have hlt : k < a.length := by omega
    have hlt' : k < b.length := by omega
    have e1 := List.drop_eq_getElem_cons hlt
    have e2 := List.drop_eq_getElem_cons hlt'
    refine eq_w a b k ha hb _ _ ⟨fun h => ⟨a[k], List.getElem?_eq_getElem hlt, b[k], List.getElem?_eq_getElem hlt', ⟨fun hq => ?_, fun hq => ?_⟩⟩, fun h => absurd hlt (by omega)⟩
    · have hab : a[k] = b[k] := by simp at hq; exact Prod.ext hq.1 hq.2
      have h2 := ih (k + 1) (by omega) (by omega)
      by_cases hd : a.drop (k + 1) = b.drop (k + 1)
      · rw [if_pos hd] at h2
        rw [if_pos (by rw [e1, e2, hab, hd])]
        exact h2
      · rw [if_neg hd] at h2
        rw [if_neg (by rw [e1, e2, hab]; exact fun h => hd (List.cons.inj h).2)]
        exact h2
    · have hne : ¬ a.drop k = b.drop k := by
        rw [e1, e2]
        intro he
        injection he with h1 _
        rw [h1] at hq
        simp at hq
      rw [if_neg hne]
      exact ⟨rfl, rfl⟩

theorem eq_l (a b : List D) (ha : a.length ≤ 1000000000) (hb : b.length = a.length) : RunL P G none 0 (loopAt P 42 0) (eqSt a b 0) (if a = b then .exit 0 else .ret) { env := slots 26 [(4, bool false)], H := [] } :=
  eq_loop a b ha hb _ 0 rfl (by omega)

theorem eq_f (a b : List D) (ha : a.length ≤ 1000000000) (h : ((((↑(List.length a) : Int) = (↑(List.length b) : Int)) → (((a = b) → (true) = (decide (a = b))) ∧ ((¬a = b) → (false) = (decide (a = b))))) ∧ ((¬(↑(List.length a) : Int) = (↑(List.length b) : Int)) → (false) = (decide (a = b))))) : CallC P G 42 [vec a, vec b] [] (AOut.ret (Am.bool (decide (a = b)))) [] := by
  have hz0 : Am.Sub (int (↑(List.length (encs a)) : Int)) (int (↑(List.length a) : Int)) := (Sub.of_eq (by simp only [Go.Vec.encs_length]))
  have hz1 : Am.Sub (int (↑(List.length (encs b)) : Int)) (int (↑(List.length b) : Int)) := (Sub.of_eq (by simp only [Go.Vec.encs_length]))
  by_cases c1 : ((↑(List.length a) : Int) = (↑(List.length b) : Int))
  · have h := h.1 c1
    have hz2 : ((↑(List.length a) : Int) != (↑(List.length b) : Int)) = false := (congrArg Bool.not (beq_iff_eq.2 c1))
    by_cases c2 : (a = b)
    · have h := h.1 c2
      have e1 := h
      exact callC_out (Sub.bool_eq e1) [kv 7 hz0, kv 9 hz1, kf hz2, kv 12 hz0, kl [2, 3, 5, 6, 7, 8, 9, 10, 14, 15, 16, 17, 18, 19, 20, 21, 22, 23, 24, 25] 0 (show RunL P G none 0 (loopAt P 42 0) { env := slots 26 [(0, AV.sl 2 false (encs a)), (1, AV.sl 2 false (encs b)), (4, Am.bool false), (11, AV.sl 2 false (encs a)), (12, int (↑(List.length a) : Int)), (13, int 0)], H := [] } (AEx.exit 0) { env := slots 26 [(4, Am.bool false)], H := [] } from (by have h0 := (@Go.Ops.eq_l (a) (b) (by omega) (by omega)); simp only [if_pos c2] at h0; exact h0))] (by kernel_rfl)
    · have h := h.2 c2
      have e1 := h
      exact callC_out (Sub.bool_eq e1) [kv 7 hz0, kv 9 hz1, kf hz2, kv 12 hz0, kl [2, 3, 5, 6, 7, 8, 9, 10, 14, 15, 16, 17, 18, 19, 20, 21, 22, 23, 24, 25] 0 (show RunL P G none 0 (loopAt P 42 0) { env := slots 26 [(0, AV.sl 2 false (encs a)), (1, AV.sl 2 false (encs b)), (4, Am.bool false), (11, AV.sl 2 false (encs a)), (12, int (↑(List.length a) : Int)), (13, int 0)], H := [] } AEx.ret { env := slots 26 [(4, Am.bool false)], H := [] } from (by have h0 := (@Go.Ops.eq_l (a) (b) (by omega) (by omega)); simp only [if_neg c2] at h0; exact h0))] (by kernel_rfl)
  · have h := h.2 c1
    have e1 := h
    exact callC_out (Sub.bool_eq e1) [kv 7 hz0, kv 9 hz1, kt (show ((↑(List.length a) : Int) != (↑(List.length b) : Int)) = true from (congrArg Bool.not (beq_eq_false_iff_ne.2 c1)))] (by kernel_rfl)

theorem eq_c (a b : List D) (ha : a.length ≤ 1000000000) : CallC P G 42 [vec a, vec b] [] (.ret (bool (decide (a = b)))) [] := by
  refine eq_f a b ha ?_
  constructor
  · intro h
    exact ⟨fun h => by simp [h], fun h => by simp [h]⟩
  · intro h
    have : a ≠ b := fun e => h (by rw [e])
    simp [this]

/-! Same -/
theorem ba_beq (a b : ByteArray) : (a == b) = decide (a = b) := by
  obtain ⟨⟨a⟩⟩ := a; obtain ⟨⟨b⟩⟩ := b
  show (a.toArray == b.toArray) = _
  rw [Bool.eq_iff_iff]; simp
theorem bool_beq (a b : Bool) : (a == b) = decide (a = b) := by cases a <;> cases b <;> rfl
def sameB (a b : OP) : Bool := (decide (a.dv = b.dv) && decide (a.sq = b.sq)) && decide (a.tm = b.tm) && decide (a.cx = b.cx) && (decide (a.pk = b.pk) && decide (a.pn = b.pn)) && decide (a.kd = b.kd) && (decide (a.f1 = b.f1) && decide (a.f2 = b.f2) && decide (a.f3 = b.f3)) &&
  (decide (a.t1 = b.t1) && decide (a.t2 = b.t2) && decide (a.t3 = b.t3)) && decide (a.ky = b.ky) && decide (a.vl = b.vl) && decide (a.n = b.n) && decide (a.on = b.on)
theorem sameB_eq (a b : OP) : sameB a b = decide (a = b) := by
  cases a; cases b
  simp only [sameB, OP.mk.injEq, Bool.decide_and, Bool.and_assoc]

theorem same_w (a b : OP) (ha : a.cx.length ≤ 1000000000) (v : Bool) (h : ((((OP.dv a == OP.dv b && OP.sq a == OP.sq b) = true) → (((OP.tm a = OP.tm b) → (((OP.cx a = OP.cx b) → ((((OP.pk a == OP.pk b && OP.pn a == OP.pn b) = true) → (((OP.kd a = OP.kd b) → ((((OP.f1 a == OP.f1 b && (OP.f2 a == OP.f2 b && OP.f3 a == OP.f3 b)) = true) → ((((OP.t1 a == OP.t1 b && (OP.t2 a == OP.t2 b && OP.t3 a == OP.t3 b)) = true) → (((OP.ky a = OP.ky b) → (((OP.vl a = OP.vl b) → (((OP.n a = OP.n b) → (OP.on a == OP.on b) = (v)) ∧ ((¬OP.n a = OP.n b) → (false) = (v)))) ∧ ((¬OP.vl a = OP.vl b) → (false) = (v)))) ∧ ((¬OP.ky a = OP.ky b) → (false) = (v)))) ∧ (((OP.t1 a == OP.t1 b && (OP.t2 a == OP.t2 b && OP.t3 a == OP.t3 b)) = false) → (false) = (v)))) ∧ (((OP.f1 a == OP.f1 b && (OP.f2 a == OP.f2 b && OP.f3 a == OP.f3 b)) = false) → (false) = (v)))) ∧ ((¬OP.kd a = OP.kd b) → (false) = (v)))) ∧ (((OP.pk a == OP.pk b && OP.pn a == OP.pn b) = false) → (false) = (v)))) ∧ ((¬OP.cx a = OP.cx b) → (false) = (v)))) ∧ ((¬OP.tm a = OP.tm b) → (false) = (v)))) ∧ (((OP.dv a == OP.dv b && OP.sq a == OP.sq b) = false) → (false) = (v)))) : CallC P G 16 [op a, op b] [] (AOut.ret (Am.bool v)) [] := by
  rcases Bool.eq_false_or_eq_true ((OP.dv a == OP.dv b && OP.sq a == OP.sq b)) with c1 | c1
  · have h := h.1 c1
    by_cases c2 : (OP.tm a = OP.tm b)
    · have h := h.1 c2
      have hz0 := (@Go.Ops.eq_c (OP.cx a) (OP.cx b) (by omega))
      by_cases c3 : (OP.cx a = OP.cx b)
      · have h := h.1 c3
        rcases Bool.eq_false_or_eq_true ((OP.pk a == OP.pk b && OP.pn a == OP.pn b)) with c4 | c4
        · have h := h.1 c4
          by_cases c5 : (OP.kd a = OP.kd b)
          · have h := h.1 c5
            rcases Bool.eq_false_or_eq_true ((OP.f1 a == OP.f1 b && (OP.f2 a == OP.f2 b && OP.f3 a == OP.f3 b))) with c6 | c6
            · have h := h.1 c6
              rcases Bool.eq_false_or_eq_true ((OP.t1 a == OP.t1 b && (OP.t2 a == OP.t2 b && OP.t3 a == OP.t3 b))) with c7 | c7
              · have h := h.1 c7
                have hz1 : Am.Sub (Am.bool (ByteArray.toList (OP.ky a) == ByteArray.toList (OP.ky b))) (Am.bool (decide (OP.ky a = OP.ky b))) := (Sub.of_eq (by simp only [Go.Cdc.str_eq]))
                by_cases c8 : (OP.ky a = OP.ky b)
                · have h := h.1 c8
                  have hz2 : Am.Sub (Am.bool (ByteArray.toList (OP.vl a) == ByteArray.toList (OP.vl b))) (Am.bool (decide (OP.vl a = OP.vl b))) := (Sub.of_eq (by simp only [Go.Cdc.str_eq]))
                  by_cases c9 : (OP.vl a = OP.vl b)
                  · have h := h.1 c9
                    by_cases c10 : (OP.n a = OP.n b)
                    · have h := h.1 c10
                      have e1 := h
                      exact callC_out (Sub.bool_eq e1) [kt c1, kt (beq_iff_eq.2 c2), kc [] hz0, kt (decide_eq_true c3), kt c4, kt (beq_iff_eq.2 c5), kt c6, kt c7, kv 57 hz1, kt (decide_eq_true c8), kv 64 hz2, kt (decide_eq_true c9), kt (beq_iff_eq.2 c10)] (by kernel_rfl)
                    · have h := h.2 c10
                      have e1 := h
                      exact callC_out (Sub.bool_eq e1) [kt c1, kt (beq_iff_eq.2 c2), kc [] hz0, kt (decide_eq_true c3), kt c4, kt (beq_iff_eq.2 c5), kt c6, kt c7, kv 57 hz1, kt (decide_eq_true c8), kv 64 hz2, kt (decide_eq_true c9), kf (beq_eq_false_iff_ne.2 c10)] (by kernel_rfl)
                  · have h := h.2 c9
                    have e1 := h
                    exact callC_out (Sub.bool_eq e1) [kt c1, kt (beq_iff_eq.2 c2), kc [] hz0, kt (decide_eq_true c3), kt c4, kt (beq_iff_eq.2 c5), kt c6, kt c7, kv 57 hz1, kt (decide_eq_true c8), kv 64 hz2, kf (decide_eq_false c9), kf (Eq.refl false)] (by kernel_rfl)
                · have h := h.2 c8
                  have e1 := h
                  exact callC_out (Sub.bool_eq e1) [kt c1, kt (beq_iff_eq.2 c2), kc [] hz0, kt (decide_eq_true c3), kt c4, kt (beq_iff_eq.2 c5), kt c6, kt c7, kv 57 hz1, kf (decide_eq_false c8), kf (Eq.refl false), kf (Eq.refl false)] (by kernel_rfl)
              · have h := h.2 c7
                have e1 := h
                exact callC_out (Sub.bool_eq e1) [kt c1, kt (beq_iff_eq.2 c2), kc [] hz0, kt (decide_eq_true c3), kt c4, kt (beq_iff_eq.2 c5), kt c6, kf c7, kf (Eq.refl false), kf (Eq.refl false), kf (Eq.refl false)] (by kernel_rfl)
            · have h := h.2 c6
              have e1 := h
              exact callC_out (Sub.bool_eq e1) [kt c1, kt (beq_iff_eq.2 c2), kc [] hz0, kt (decide_eq_true c3), kt c4, kt (beq_iff_eq.2 c5), kf c6, kf (Eq.refl false), kf (Eq.refl false), kf (Eq.refl false), kf (Eq.refl false)] (by kernel_rfl)
          · have h := h.2 c5
            have e1 := h
            exact callC_out (Sub.bool_eq e1) [kt c1, kt (beq_iff_eq.2 c2), kc [] hz0, kt (decide_eq_true c3), kt c4, kf (beq_eq_false_iff_ne.2 c5), kf (Eq.refl false), kf (Eq.refl false), kf (Eq.refl false), kf (Eq.refl false), kf (Eq.refl false)] (by kernel_rfl)
        · have h := h.2 c4
          have e1 := h
          exact callC_out (Sub.bool_eq e1) [kt c1, kt (beq_iff_eq.2 c2), kc [] hz0, kt (decide_eq_true c3), kf c4, kf (Eq.refl false), kf (Eq.refl false), kf (Eq.refl false), kf (Eq.refl false), kf (Eq.refl false), kf (Eq.refl false)] (by kernel_rfl)
      · have h := h.2 c3
        have e1 := h
        exact callC_out (Sub.bool_eq e1) [kt c1, kt (beq_iff_eq.2 c2), kc [] hz0, kf (decide_eq_false c3), kf (Eq.refl false), kf (Eq.refl false), kf (Eq.refl false), kf (Eq.refl false), kf (Eq.refl false), kf (Eq.refl false), kf (Eq.refl false)] (by kernel_rfl)
    · have h := h.2 c2
      have e1 := h
      exact callC_out (Sub.bool_eq e1) [kt c1, kf (beq_eq_false_iff_ne.2 c2), kf (Eq.refl false), kf (Eq.refl false), kf (Eq.refl false), kf (Eq.refl false), kf (Eq.refl false), kf (Eq.refl false), kf (Eq.refl false), kf (Eq.refl false)] (by kernel_rfl)
  · have h := h.2 c1
    have e1 := h
    exact callC_out (Sub.bool_eq e1) [kf c1, kf (Eq.refl false), kf (Eq.refl false), kf (Eq.refl false), kf (Eq.refl false), kf (Eq.refl false), kf (Eq.refl false), kf (Eq.refl false), kf (Eq.refl false), kf (Eq.refl false)] (by kernel_rfl)

theorem rsame_w (a b : OP) (ha : a.cx.length ≤ 1000000000) (v : Bool) (h : ((((OP.dv a == OP.dv b && OP.sq a == OP.sq b) = true) → (((OP.tm a = OP.tm b) → (((OP.cx a = OP.cx b) → ((((OP.pk a == OP.pk b && OP.pn a == OP.pn b) = true) → (((OP.kd a = OP.kd b) → ((((OP.f1 a == OP.f1 b && (OP.f2 a == OP.f2 b && OP.f3 a == OP.f3 b)) = true) → ((((OP.t1 a == OP.t1 b && (OP.t2 a == OP.t2 b && OP.t3 a == OP.t3 b)) = true) → (((OP.ky a = OP.ky b) → (((OP.vl a = OP.vl b) → (((OP.n a = OP.n b) → (OP.on a == OP.on b) = (v)) ∧ ((¬OP.n a = OP.n b) → (false) = (v)))) ∧ ((¬OP.vl a = OP.vl b) → (false) = (v)))) ∧ ((¬OP.ky a = OP.ky b) → (false) = (v)))) ∧ (((OP.t1 a == OP.t1 b && (OP.t2 a == OP.t2 b && OP.t3 a == OP.t3 b)) = false) → (false) = (v)))) ∧ (((OP.f1 a == OP.f1 b && (OP.f2 a == OP.f2 b && OP.f3 a == OP.f3 b)) = false) → (false) = (v)))) ∧ ((¬OP.kd a = OP.kd b) → (false) = (v)))) ∧ (((OP.pk a == OP.pk b && OP.pn a == OP.pn b) = false) → (false) = (v)))) ∧ ((¬OP.cx a = OP.cx b) → (false) = (v)))) ∧ ((¬OP.tm a = OP.tm b) → (false) = (v)))) ∧ (((OP.dv a == OP.dv b && OP.sq a == OP.sq b) = false) → (false) = (v)))) : CallC P G 17 [op a, op b] [] (AOut.ret (Am.bool v)) [] := by
  rcases Bool.eq_false_or_eq_true ((OP.dv a == OP.dv b && OP.sq a == OP.sq b)) with c1 | c1
  · have h := h.1 c1
    by_cases c2 : (OP.tm a = OP.tm b)
    · have h := h.1 c2
      have hz0 := (@Go.Vec.same_c (OP.cx a) (OP.cx b) (by omega))
      by_cases c3 : (OP.cx a = OP.cx b)
      · have h := h.1 c3
        rcases Bool.eq_false_or_eq_true ((OP.pk a == OP.pk b && OP.pn a == OP.pn b)) with c4 | c4
        · have h := h.1 c4
          by_cases c5 : (OP.kd a = OP.kd b)
          · have h := h.1 c5
            rcases Bool.eq_false_or_eq_true ((OP.f1 a == OP.f1 b && (OP.f2 a == OP.f2 b && OP.f3 a == OP.f3 b))) with c6 | c6
            · have h := h.1 c6
              rcases Bool.eq_false_or_eq_true ((OP.t1 a == OP.t1 b && (OP.t2 a == OP.t2 b && OP.t3 a == OP.t3 b))) with c7 | c7
              · have h := h.1 c7
                have hz1 : Am.Sub (Am.bool (ByteArray.toList (OP.ky a) == ByteArray.toList (OP.ky b))) (Am.bool (decide (OP.ky a = OP.ky b))) := (Sub.of_eq (by simp only [Go.Cdc.str_eq]))
                by_cases c8 : (OP.ky a = OP.ky b)
                · have h := h.1 c8
                  have hz2 : Am.Sub (Am.bool (ByteArray.toList (OP.vl a) == ByteArray.toList (OP.vl b))) (Am.bool (decide (OP.vl a = OP.vl b))) := (Sub.of_eq (by simp only [Go.Cdc.str_eq]))
                  by_cases c9 : (OP.vl a = OP.vl b)
                  · have h := h.1 c9
                    by_cases c10 : (OP.n a = OP.n b)
                    · have h := h.1 c10
                      have e1 := h
                      exact callC_out (Sub.bool_eq e1) [kt c1, kt (beq_iff_eq.2 c2), kc [] hz0, kt (decide_eq_true c3), kt c4, kt (beq_iff_eq.2 c5), kt c6, kt c7, kv 57 hz1, kt (decide_eq_true c8), kv 64 hz2, kt (decide_eq_true c9), kt (beq_iff_eq.2 c10)] (by kernel_rfl)
                    · have h := h.2 c10
                      have e1 := h
                      exact callC_out (Sub.bool_eq e1) [kt c1, kt (beq_iff_eq.2 c2), kc [] hz0, kt (decide_eq_true c3), kt c4, kt (beq_iff_eq.2 c5), kt c6, kt c7, kv 57 hz1, kt (decide_eq_true c8), kv 64 hz2, kt (decide_eq_true c9), kf (beq_eq_false_iff_ne.2 c10)] (by kernel_rfl)
                  · have h := h.2 c9
                    have e1 := h
                    exact callC_out (Sub.bool_eq e1) [kt c1, kt (beq_iff_eq.2 c2), kc [] hz0, kt (decide_eq_true c3), kt c4, kt (beq_iff_eq.2 c5), kt c6, kt c7, kv 57 hz1, kt (decide_eq_true c8), kv 64 hz2, kf (decide_eq_false c9), kf (Eq.refl false)] (by kernel_rfl)
                · have h := h.2 c8
                  have e1 := h
                  exact callC_out (Sub.bool_eq e1) [kt c1, kt (beq_iff_eq.2 c2), kc [] hz0, kt (decide_eq_true c3), kt c4, kt (beq_iff_eq.2 c5), kt c6, kt c7, kv 57 hz1, kf (decide_eq_false c8), kf (Eq.refl false), kf (Eq.refl false)] (by kernel_rfl)
              · have h := h.2 c7
                have e1 := h
                exact callC_out (Sub.bool_eq e1) [kt c1, kt (beq_iff_eq.2 c2), kc [] hz0, kt (decide_eq_true c3), kt c4, kt (beq_iff_eq.2 c5), kt c6, kf c7, kf (Eq.refl false), kf (Eq.refl false), kf (Eq.refl false)] (by kernel_rfl)
            · have h := h.2 c6
              have e1 := h
              exact callC_out (Sub.bool_eq e1) [kt c1, kt (beq_iff_eq.2 c2), kc [] hz0, kt (decide_eq_true c3), kt c4, kt (beq_iff_eq.2 c5), kf c6, kf (Eq.refl false), kf (Eq.refl false), kf (Eq.refl false), kf (Eq.refl false)] (by kernel_rfl)
          · have h := h.2 c5
            have e1 := h
            exact callC_out (Sub.bool_eq e1) [kt c1, kt (beq_iff_eq.2 c2), kc [] hz0, kt (decide_eq_true c3), kt c4, kf (beq_eq_false_iff_ne.2 c5), kf (Eq.refl false), kf (Eq.refl false), kf (Eq.refl false), kf (Eq.refl false), kf (Eq.refl false)] (by kernel_rfl)
        · have h := h.2 c4
          have e1 := h
          exact callC_out (Sub.bool_eq e1) [kt c1, kt (beq_iff_eq.2 c2), kc [] hz0, kt (decide_eq_true c3), kf c4, kf (Eq.refl false), kf (Eq.refl false), kf (Eq.refl false), kf (Eq.refl false), kf (Eq.refl false), kf (Eq.refl false)] (by kernel_rfl)
      · have h := h.2 c3
        have e1 := h
        exact callC_out (Sub.bool_eq e1) [kt c1, kt (beq_iff_eq.2 c2), kc [] hz0, kf (decide_eq_false c3), kf (Eq.refl false), kf (Eq.refl false), kf (Eq.refl false), kf (Eq.refl false), kf (Eq.refl false), kf (Eq.refl false), kf (Eq.refl false)] (by kernel_rfl)
    · have h := h.2 c2
      have e1 := h
      exact callC_out (Sub.bool_eq e1) [kt c1, kf (beq_eq_false_iff_ne.2 c2), kf (Eq.refl false), kf (Eq.refl false), kf (Eq.refl false), kf (Eq.refl false), kf (Eq.refl false), kf (Eq.refl false), kf (Eq.refl false), kf (Eq.refl false)] (by kernel_rfl)
  · have h := h.2 c1
    have e1 := h
    exact callC_out (Sub.bool_eq e1) [kf c1, kf (Eq.refl false), kf (Eq.refl false), kf (Eq.refl false), kf (Eq.refl false), kf (Eq.refl false), kf (Eq.refl false), kf (Eq.refl false), kf (Eq.refl false), kf (Eq.refl false)] (by kernel_rfl)

theorem same_c (a b : OP) (ha : a.cx.length ≤ 1000000000) : CallC P G 16 [op a, op b] [] (.ret (bool (decide (a = b)))) [] := same_w a b ha _ (by
  rw [← sameB_eq]; unfold sameB
  repeat' (first | refine And.intro ?_ ?_ | intro _)
  all_goals simp_all [ba_beq, bool_beq])
theorem rsame_c (a b : OP) (ha : a.cx.length ≤ 1000000000) : CallC P G 17 [op a, op b] [] (.ret (bool (decide (a = b)))) [] := rsame_w a b ha _ (by
  rw [← sameB_eq]; unfold sameB
  repeat' (first | refine And.intro ?_ ?_ | intro _)
  all_goals simp_all [ba_beq, bool_beq])

/-! What is left besides a kind's fields -/
def zop : OP := ⟨0, 0, 0, [], 0, .empty, 0, 0, 0, 0, 0, 0, 0, .empty, .empty, 0, false⟩
def restO (o : OP) : Int → OP
  | 1 => { zop with t1 := o.t1, t2 := o.t2, t3 := o.t3, ky := o.ky, n := o.n, on := o.on }
  | 2 => { zop with t1 := o.t1, t2 := o.t2, t3 := o.t3, ky := o.ky, vl := o.vl, n := o.n, on := o.on }
  | 3 => { zop with f1 := o.f1, f2 := o.f2, f3 := o.f3, t1 := o.t1, t2 := o.t2, t3 := o.t3, n := o.n, on := o.on }
  | 4 => { zop with f1 := o.f1, f2 := o.f2, f3 := o.f3, t1 := o.t1, t2 := o.t2, t3 := o.t3, vl := o.vl, n := o.n, on := o.on }
  | 5 => { zop with f1 := o.f1, f2 := o.f2, f3 := o.f3, t1 := o.t1, t2 := o.t2, t3 := o.t3, ky := o.ky, vl := o.vl, on := o.on }
  | 6 => { zop with t1 := o.t1, t2 := o.t2, t3 := o.t3, ky := o.ky, n := o.n, on := o.on }
  | 7 => { zop with t1 := o.t1, t2 := o.t2, t3 := o.t3, ky := o.ky, vl := o.vl, on := o.on }
  | _ => { zop with ky := o.ky, vl := o.vl }

theorem rest1_w (o : OP) (h : True) : CallC P G 32 [opk o 1] [] (AOut.ret (op (restO o 1))) [] := by
  have _ := h
  exact CallC.out ((show CallC P G 32 [opk o 1] [] (AOut.ret (AV.agg [int 0, int 0, int 0, nilS, int 0, str { data := #[] }, int 0, int 0, int 0, int 0, int (OP.t1 o), int (OP.t2 o), int (OP.t3 o), str (OP.ky o), str { data := #[] }, int (OP.n o), Am.bool (OP.on o)])) [] from callC_of [kf (Eq.refl false), kf (Eq.refl false), kf (Eq.refl false), kt (Eq.refl true), kt (Eq.refl true)] (by kernel_rfl))) (Sub.aggs ⟨Sub.refl _, Sub.refl _, Sub.refl _, Sub.nil _, Sub.refl _, Sub.refl _, Sub.refl _, Sub.refl _, Sub.refl _, Sub.refl _, Sub.refl _, Sub.refl _, Sub.refl _, Sub.refl _, Sub.refl _, Sub.refl _, Sub.refl _, trivial⟩)


theorem rest2_w (o : OP) (h : True) : CallC P G 32 [opk o 2] [] (AOut.ret (op (restO o 2))) [] := by
  have _ := h
  exact CallC.out ((show CallC P G 32 [opk o 2] [] (AOut.ret (AV.agg [int 0, int 0, int 0, nilS, int 0, str { data := #[] }, int 0, int 0, int 0, int 0, int (OP.t1 o), int (OP.t2 o), int (OP.t3 o), str (OP.ky o), str (OP.vl o), int (OP.n o), Am.bool (OP.on o)])) [] from callC_of [kf (Eq.refl false), kf (Eq.refl false), kf (Eq.refl false), kf (Eq.refl false), kf (Eq.refl false), kt (Eq.refl true)] (by kernel_rfl))) (Sub.aggs ⟨Sub.refl _, Sub.refl _, Sub.refl _, Sub.nil _, Sub.refl _, Sub.refl _, Sub.refl _, Sub.refl _, Sub.refl _, Sub.refl _, Sub.refl _, Sub.refl _, Sub.refl _, Sub.refl _, Sub.refl _, Sub.refl _, Sub.refl _, trivial⟩)


theorem rest3_w (o : OP) (h : True) : CallC P G 32 [opk o 3] [] (AOut.ret (op (restO o 3))) [] := by
  have _ := h
  exact CallC.out ((show CallC P G 32 [opk o 3] [] (AOut.ret (AV.agg [int 0, int 0, int 0, nilS, int 0, str { data := #[] }, int 0, int (OP.f1 o), int (OP.f2 o), int (OP.f3 o), int (OP.t1 o), int (OP.t2 o), int (OP.t3 o), str { data := #[] }, str { data := #[] }, int (OP.n o), Am.bool (OP.on o)])) [] from callC_of [kf (Eq.refl false), kf (Eq.refl false), kf (Eq.refl false), kf (Eq.refl false), kf (Eq.refl false), kf (Eq.refl false), kt (Eq.refl true)] (by kernel_rfl))) (Sub.aggs ⟨Sub.refl _, Sub.refl _, Sub.refl _, Sub.nil _, Sub.refl _, Sub.refl _, Sub.refl _, Sub.refl _, Sub.refl _, Sub.refl _, Sub.refl _, Sub.refl _, Sub.refl _, Sub.refl _, Sub.refl _, Sub.refl _, Sub.refl _, trivial⟩)


theorem rest4_w (o : OP) (h : True) : CallC P G 32 [opk o 4] [] (AOut.ret (op (restO o 4))) [] := by
  have _ := h
  exact CallC.out ((show CallC P G 32 [opk o 4] [] (AOut.ret (AV.agg [int 0, int 0, int 0, nilS, int 0, str { data := #[] }, int 0, int (OP.f1 o), int (OP.f2 o), int (OP.f3 o), int (OP.t1 o), int (OP.t2 o), int (OP.t3 o), str { data := #[] }, str (OP.vl o), int (OP.n o), Am.bool (OP.on o)])) [] from callC_of [kf (Eq.refl false), kf (Eq.refl false), kf (Eq.refl false), kf (Eq.refl false), kf (Eq.refl false), kf (Eq.refl false), kf (Eq.refl false), kt (Eq.refl true)] (by kernel_rfl))) (Sub.aggs ⟨Sub.refl _, Sub.refl _, Sub.refl _, Sub.nil _, Sub.refl _, Sub.refl _, Sub.refl _, Sub.refl _, Sub.refl _, Sub.refl _, Sub.refl _, Sub.refl _, Sub.refl _, Sub.refl _, Sub.refl _, Sub.refl _, Sub.refl _, trivial⟩)


theorem rest5_w (o : OP) (h : True) : CallC P G 32 [opk o 5] [] (AOut.ret (op (restO o 5))) [] := by
  have _ := h
  exact CallC.out ((show CallC P G 32 [opk o 5] [] (AOut.ret (AV.agg [int 0, int 0, int 0, nilS, int 0, str { data := #[] }, int 0, int (OP.f1 o), int (OP.f2 o), int (OP.f3 o), int (OP.t1 o), int (OP.t2 o), int (OP.t3 o), str (OP.ky o), str (OP.vl o), int 0, Am.bool (OP.on o)])) [] from callC_of [kf (Eq.refl false), kf (Eq.refl false), kt (Eq.refl true)] (by kernel_rfl))) (Sub.aggs ⟨Sub.refl _, Sub.refl _, Sub.refl _, Sub.nil _, Sub.refl _, Sub.refl _, Sub.refl _, Sub.refl _, Sub.refl _, Sub.refl _, Sub.refl _, Sub.refl _, Sub.refl _, Sub.refl _, Sub.refl _, Sub.refl _, Sub.refl _, trivial⟩)


theorem rest6_w (o : OP) (h : True) : CallC P G 32 [opk o 6] [] (AOut.ret (op (restO o 6))) [] := by
  have _ := h
  exact CallC.out ((show CallC P G 32 [opk o 6] [] (AOut.ret (AV.agg [int 0, int 0, int 0, nilS, int 0, str { data := #[] }, int 0, int 0, int 0, int 0, int (OP.t1 o), int (OP.t2 o), int (OP.t3 o), str (OP.ky o), str { data := #[] }, int (OP.n o), Am.bool (OP.on o)])) [] from callC_of [kf (Eq.refl false), kf (Eq.refl false), kf (Eq.refl false), kf (Eq.refl false), kt (Eq.refl true)] (by kernel_rfl))) (Sub.aggs ⟨Sub.refl _, Sub.refl _, Sub.refl _, Sub.nil _, Sub.refl _, Sub.refl _, Sub.refl _, Sub.refl _, Sub.refl _, Sub.refl _, Sub.refl _, Sub.refl _, Sub.refl _, Sub.refl _, Sub.refl _, Sub.refl _, Sub.refl _, trivial⟩)


theorem rest7_w (o : OP) (h : True) : CallC P G 32 [opk o 7] [] (AOut.ret (op (restO o 7))) [] := by
  have _ := h
  exact CallC.out ((show CallC P G 32 [opk o 7] [] (AOut.ret (AV.agg [int 0, int 0, int 0, nilS, int 0, str { data := #[] }, int 0, int 0, int 0, int 0, int (OP.t1 o), int (OP.t2 o), int (OP.t3 o), str (OP.ky o), str (OP.vl o), int 0, Am.bool (OP.on o)])) [] from callC_of [kf (Eq.refl false), kt (Eq.refl true)] (by kernel_rfl))) (Sub.aggs ⟨Sub.refl _, Sub.refl _, Sub.refl _, Sub.nil _, Sub.refl _, Sub.refl _, Sub.refl _, Sub.refl _, Sub.refl _, Sub.refl _, Sub.refl _, Sub.refl _, Sub.refl _, Sub.refl _, Sub.refl _, Sub.refl _, Sub.refl _, trivial⟩)


theorem rest8_w (o : OP) (h : True) : CallC P G 32 [opk o 8] [] (AOut.ret (op (restO o 8))) [] := by
  have _ := h
  exact CallC.out ((show CallC P G 32 [opk o 8] [] (AOut.ret (AV.agg [int 0, int 0, int 0, nilS, int 0, str { data := #[] }, int 0, int 0, int 0, int 0, int 0, int 0, int 0, str (OP.ky o), str (OP.vl o), int 0, Am.bool false])) [] from callC_of [kt (Eq.refl true)] (by kernel_rfl))) (Sub.aggs ⟨Sub.refl _, Sub.refl _, Sub.refl _, Sub.nil _, Sub.refl _, Sub.refl _, Sub.refl _, Sub.refl _, Sub.refl _, Sub.refl _, Sub.refl _, Sub.refl _, Sub.refl _, Sub.refl _, Sub.refl _, Sub.refl _, Sub.refl _, trivial⟩)


end Go.Ops

/- CODEC, 4: what is well-formed, and how deep. -/
namespace Go.Cdc
set_option maxRecDepth 100000
set_option linter.unusedSimpArgs false
set_option linter.unusedVariables false
open Go Go.Am Go.Proofs Go.Seat

mutual
def wf : CV → Bool
  | .mk k n s l => if k = 1 then decide (s = .empty) && decide (l.length = 0) else if k = 2 then decide (n = 0) && decide (l.length = 0) else if k = 3 then decide (n = 0) && decide (s = .empty) && wfL l else false
def wfL : List CV → Bool
  | [] => true
  | v :: l => wf v && wfL l
end
mutual
def dp : CV → Nat
  | .mk k _ _ l => if k = 3 then dpL l + 1 else 0
def dpL : List CV → Nat
  | [] => 0
  | v :: l => max (dp v) (dpL l)
end
theorem CV.ind {p : CV → Prop} (h : ∀ k n s l, (∀ x ∈ l, p x) → p (.mk k n s l)) (v : CV) : p v :=
  CV.rec (motive_1 := p) (motive_2 := fun l => ∀ x ∈ l, p x) (fun k n s l ih => h k n s l ih) (fun _ hx => by cases hx) (fun a l ha hl x hx => by
    rcases List.mem_cons.1 hx with rfl | hx
    · exact ha
    · exact hl x hx) v
/-- Data within what a machine holds. -/
inductive Okv : CV → Prop
  | mk (k n : Int) (s : ByteArray) (l : List CV) (hn : -9223372036854775808 ≤ n ∧ n < 9223372036854775808) (hs : s.size ≤ 9223372036854775807) (hl : l.length ≤ 9223372036854775807) (h : ∀ x ∈ l, Okv x) : Okv (.mk k n s l)
theorem dp_mem {l : List CV} {x : CV} (h : x ∈ l) : dp x ≤ dpL l := by
  induction l with
  | nil => cases h
  | cons a l ih =>
    simp only [dpL]
    rcases List.mem_cons.1 h with rfl | h
    · omega
    · have := ih h; omega
theorem empty_eq : ({ data := #[] } : ByteArray) = ByteArray.empty := rfl
/-- What an element says of itself. -/
def FormedC (v : CV) : Prop := CallC P G 85 [val v] [] (.ret (.tup [int (if wf v = true then dp v else 0), bool (wf v)])) []

theorem formed1_w (n : Int) (s : ByteArray) (l : List CV) (a : Int) (b : Bool) (h : (((s = { data := #[] }) → (((n = (0 : Int)) → ((((↑(List.length l) : Int) = (0 : Int)) → ((0 : Int) = (a)) ∧ ((true) = (b))) ∧ ((¬(↑(List.length l) : Int) = (0 : Int)) → ((0 : Int) = (a)) ∧ ((false) = (b))))) ∧ ((¬n = (0 : Int)) → ((((↑(List.length l) : Int) = (0 : Int)) → ((0 : Int) = (a)) ∧ ((true) = (b))) ∧ ((¬(↑(List.length l) : Int) = (0 : Int)) → ((0 : Int) = (a)) ∧ ((false) = (b))))))) ∧ ((¬s = { data := #[] }) → (((n = (0 : Int)) → ((0 : Int) = (a)) ∧ ((false) = (b))) ∧ ((¬n = (0 : Int)) → ((0 : Int) = (a)) ∧ ((false) = (b))))))) : CallC P G 85 [vmk 1 n s l] [] (AOut.ret (AV.tup [int a, Am.bool b])) [] := by
  have hz0 : Am.Sub (Am.bool (ByteArray.toList s == ByteArray.toList { data := #[] })) (Am.bool (decide (s = { data := #[] }))) := (Sub.of_eq (by simp only [Go.Cdc.str_eq]))
  by_cases c1 : (s = { data := #[] })
  · have h := h.1 c1
    have hz1 : Am.Sub (int (↑(List.length (encL l)) : Int)) (int (↑(List.length l) : Int)) := (Sub.of_eq (by simp only [Go.Cdc.encL_length]))
    by_cases c2 : (n = (0 : Int))
    · have h := h.1 c2
      have hz2 : (0 : Int) ≤ (1 : Int) ∧ (1 : Int) < (4 : Int) := (by omega)
      by_cases c3 : ((↑(List.length l) : Int) = (0 : Int))
      · have h := h.1 c3
        obtain ⟨e1, e2⟩ := h
        exact CallC.out ((show CallC P G 85 [vmk 1 n s l] [] (AOut.ret (AV.tup [int 0, Am.bool true])) [] from callC_of [kv 11 hz0, kt (decide_eq_true c1), kv 15 hz1, kt (beq_iff_eq.2 c2), kv 24 hz1, kt (beq_iff_eq.2 c2), kv 33 hz0, kf (Eq.refl false), kf (Eq.refl false), kp hz2, kf (show (!(↑(List.length l) : Int) == 0) = false from (congrArg Bool.not (beq_iff_eq.2 c3))), kt (Eq.refl true)] (by kernel_rfl))) (Sub.tups ⟨(Sub.int_eq e1), (Sub.bool_eq e2), trivial⟩)
      · have h := h.2 c3
        obtain ⟨e1, e2⟩ := h
        exact CallC.out ((show CallC P G 85 [vmk 1 n s l] [] (AOut.ret (AV.tup [int 0, Am.bool false])) [] from callC_of [kv 11 hz0, kt (decide_eq_true c1), kv 15 hz1, kt (beq_iff_eq.2 c2), kv 24 hz1, kt (beq_iff_eq.2 c2), kv 33 hz0, kf (Eq.refl false), kf (Eq.refl false), kp hz2, kt (show (!(↑(List.length l) : Int) == 0) = true from (congrArg Bool.not (beq_eq_false_iff_ne.2 c3)))] (by kernel_rfl))) (Sub.tups ⟨(Sub.int_eq e1), (Sub.bool_eq e2), trivial⟩)
    · have h := h.2 c2
      have hz2 : (0 : Int) ≤ (1 : Int) ∧ (1 : Int) < (4 : Int) := (by omega)
      by_cases c4 : ((↑(List.length l) : Int) = (0 : Int))
      · have h := h.1 c4
        obtain ⟨e1, e2⟩ := h
        exact CallC.out ((show CallC P G 85 [vmk 1 n s l] [] (AOut.ret (AV.tup [int 0, Am.bool true])) [] from callC_of [kv 11 hz0, kt (decide_eq_true c1), kv 15 hz1, kf (beq_eq_false_iff_ne.2 c2), kf (beq_eq_false_iff_ne.2 c2), kf (Eq.refl false), kf (Eq.refl false), kp hz2, kf (show (!(↑(List.length l) : Int) == 0) = false from (congrArg Bool.not (beq_iff_eq.2 c4))), kt (Eq.refl true)] (by kernel_rfl))) (Sub.tups ⟨(Sub.int_eq e1), (Sub.bool_eq e2), trivial⟩)
      · have h := h.2 c4
        obtain ⟨e1, e2⟩ := h
        exact CallC.out ((show CallC P G 85 [vmk 1 n s l] [] (AOut.ret (AV.tup [int 0, Am.bool false])) [] from callC_of [kv 11 hz0, kt (decide_eq_true c1), kv 15 hz1, kf (beq_eq_false_iff_ne.2 c2), kf (beq_eq_false_iff_ne.2 c2), kf (Eq.refl false), kf (Eq.refl false), kp hz2, kt (show (!(↑(List.length l) : Int) == 0) = true from (congrArg Bool.not (beq_eq_false_iff_ne.2 c4)))] (by kernel_rfl))) (Sub.tups ⟨(Sub.int_eq e1), (Sub.bool_eq e2), trivial⟩)
  · have h := h.2 c1
    by_cases c5 : (n = (0 : Int))
    · have h := h.1 c5
      obtain ⟨e1, e2⟩ := h
      exact CallC.out ((show CallC P G 85 [vmk 1 n s l] [] (AOut.ret (AV.tup [int 0, Am.bool false])) [] from callC_of [kv 11 hz0, kf (decide_eq_false c1), kt (beq_iff_eq.2 c5), kv 24 (show Am.Sub (int (↑(List.length (encL l)) : Int)) (int (↑(List.length l) : Int)) from (Sub.of_eq (by simp only [Go.Cdc.encL_length]))), kt (beq_iff_eq.2 c5), kv 33 hz0, kf (Eq.refl false), kf (Eq.refl false), kp (show (0 : Int) ≤ (1 : Int) ∧ (1 : Int) < (4 : Int) from (by omega)), kt (Eq.refl true)] (by kernel_rfl))) (Sub.tups ⟨(Sub.int_eq e1), (Sub.bool_eq e2), trivial⟩)
    · have h := h.2 c5
      obtain ⟨e1, e2⟩ := h
      exact CallC.out ((show CallC P G 85 [vmk 1 n s l] [] (AOut.ret (AV.tup [int 0, Am.bool false])) [] from callC_of [kv 11 hz0, kf (decide_eq_false c1), kf (beq_eq_false_iff_ne.2 c5), kf (beq_eq_false_iff_ne.2 c5), kf (Eq.refl false), kf (Eq.refl false), kp (show (0 : Int) ≤ (1 : Int) ∧ (1 : Int) < (4 : Int) from (by omega)), kt (Eq.refl true)] (by kernel_rfl))) (Sub.tups ⟨(Sub.int_eq e1), (Sub.bool_eq e2), trivial⟩)


theorem formed2_w (n : Int) (s : ByteArray) (l : List CV) (a : Int) (b : Bool) (h : (((s = { data := #[] }) → (((n = (0 : Int)) → ((((↑(List.length l) : Int) = (0 : Int)) → ((0 : Int) = (a)) ∧ ((true) = (b))) ∧ ((¬(↑(List.length l) : Int) = (0 : Int)) → ((0 : Int) = (a)) ∧ ((false) = (b))))) ∧ ((¬n = (0 : Int)) → ((0 : Int) = (a)) ∧ ((false) = (b))))) ∧ ((¬s = { data := #[] }) → (((n = (0 : Int)) → ((((↑(List.length l) : Int) = (0 : Int)) → ((0 : Int) = (a)) ∧ ((true) = (b))) ∧ ((¬(↑(List.length l) : Int) = (0 : Int)) → ((0 : Int) = (a)) ∧ ((false) = (b))))) ∧ ((¬n = (0 : Int)) → ((0 : Int) = (a)) ∧ ((false) = (b))))))) : CallC P G 85 [vmk 2 n s l] [] (AOut.ret (AV.tup [int a, Am.bool b])) [] := by
  have hz0 : Am.Sub (Am.bool (ByteArray.toList s == ByteArray.toList { data := #[] })) (Am.bool (decide (s = { data := #[] }))) := (Sub.of_eq (by simp only [Go.Cdc.str_eq]))
  by_cases c1 : (s = { data := #[] })
  · have h := h.1 c1
    have hz1 : Am.Sub (int (↑(List.length (encL l)) : Int)) (int (↑(List.length l) : Int)) := (Sub.of_eq (by simp only [Go.Cdc.encL_length]))
    by_cases c2 : (n = (0 : Int))
    · have h := h.1 c2
      have hz2 : (0 : Int) ≤ (2 : Int) ∧ (2 : Int) < (4 : Int) := (by omega)
      by_cases c3 : ((↑(List.length l) : Int) = (0 : Int))
      · have h := h.1 c3
        obtain ⟨e1, e2⟩ := h
        exact CallC.out ((show CallC P G 85 [vmk 2 n s l] [] (AOut.ret (AV.tup [int 0, Am.bool true])) [] from callC_of [kv 11 hz0, kt (decide_eq_true c1), kv 15 hz1, kt (beq_iff_eq.2 c2), kv 24 hz1, kt (beq_iff_eq.2 c2), kv 33 hz0, kf (Eq.refl false), kf (Eq.refl false), kp hz2, kf (show (!(↑(List.length l) : Int) == 0) = false from (congrArg Bool.not (beq_iff_eq.2 c3))), kt (Eq.refl true)] (by kernel_rfl))) (Sub.tups ⟨(Sub.int_eq e1), (Sub.bool_eq e2), trivial⟩)
      · have h := h.2 c3
        obtain ⟨e1, e2⟩ := h
        exact CallC.out ((show CallC P G 85 [vmk 2 n s l] [] (AOut.ret (AV.tup [int 0, Am.bool false])) [] from callC_of [kv 11 hz0, kt (decide_eq_true c1), kv 15 hz1, kt (beq_iff_eq.2 c2), kv 24 hz1, kt (beq_iff_eq.2 c2), kv 33 hz0, kf (Eq.refl false), kf (Eq.refl false), kp hz2, kt (show (!(↑(List.length l) : Int) == 0) = true from (congrArg Bool.not (beq_eq_false_iff_ne.2 c3)))] (by kernel_rfl))) (Sub.tups ⟨(Sub.int_eq e1), (Sub.bool_eq e2), trivial⟩)
    · have h := h.2 c2
      obtain ⟨e1, e2⟩ := h
      exact CallC.out ((show CallC P G 85 [vmk 2 n s l] [] (AOut.ret (AV.tup [int 0, Am.bool false])) [] from callC_of [kv 11 hz0, kt (decide_eq_true c1), kv 15 hz1, kf (beq_eq_false_iff_ne.2 c2), kf (beq_eq_false_iff_ne.2 c2), kf (Eq.refl false), kf (Eq.refl false), kp (show (0 : Int) ≤ (2 : Int) ∧ (2 : Int) < (4 : Int) from (by omega)), kt (Eq.refl true)] (by kernel_rfl))) (Sub.tups ⟨(Sub.int_eq e1), (Sub.bool_eq e2), trivial⟩)
  · have h := h.2 c1
    have hz1 : Am.Sub (int (↑(List.length (encL l)) : Int)) (int (↑(List.length l) : Int)) := (Sub.of_eq (by simp only [Go.Cdc.encL_length]))
    by_cases c4 : (n = (0 : Int))
    · have h := h.1 c4
      by_cases c5 : ((↑(List.length l) : Int) = (0 : Int))
      · have h := h.1 c5
        obtain ⟨e1, e2⟩ := h
        exact CallC.out ((show CallC P G 85 [vmk 2 n s l] [] (AOut.ret (AV.tup [int 0, Am.bool true])) [] from callC_of [kv 11 hz0, kf (decide_eq_false c1), kt (beq_iff_eq.2 c4), kv 24 hz1, kt (beq_iff_eq.2 c4), kv 33 hz0, kf (Eq.refl false), kf (Eq.refl false), kp (show (0 : Int) ≤ (2 : Int) ∧ (2 : Int) < (4 : Int) from (by omega)), kf (show (!(↑(List.length l) : Int) == 0) = false from (congrArg Bool.not (beq_iff_eq.2 c5))), kt (Eq.refl true)] (by kernel_rfl))) (Sub.tups ⟨(Sub.int_eq e1), (Sub.bool_eq e2), trivial⟩)
      · have h := h.2 c5
        obtain ⟨e1, e2⟩ := h
        exact CallC.out ((show CallC P G 85 [vmk 2 n s l] [] (AOut.ret (AV.tup [int 0, Am.bool false])) [] from callC_of [kv 11 hz0, kf (decide_eq_false c1), kt (beq_iff_eq.2 c4), kv 24 hz1, kt (beq_iff_eq.2 c4), kv 33 hz0, kf (Eq.refl false), kf (Eq.refl false), kp (show (0 : Int) ≤ (2 : Int) ∧ (2 : Int) < (4 : Int) from (by omega)), kt (show (!(↑(List.length l) : Int) == 0) = true from (congrArg Bool.not (beq_eq_false_iff_ne.2 c5)))] (by kernel_rfl))) (Sub.tups ⟨(Sub.int_eq e1), (Sub.bool_eq e2), trivial⟩)
    · have h := h.2 c4
      obtain ⟨e1, e2⟩ := h
      exact CallC.out ((show CallC P G 85 [vmk 2 n s l] [] (AOut.ret (AV.tup [int 0, Am.bool false])) [] from callC_of [kv 11 hz0, kf (decide_eq_false c1), kf (beq_eq_false_iff_ne.2 c4), kf (beq_eq_false_iff_ne.2 c4), kf (Eq.refl false), kf (Eq.refl false), kp (show (0 : Int) ≤ (2 : Int) ∧ (2 : Int) < (4 : Int) from (by omega)), kt (Eq.refl true)] (by kernel_rfl))) (Sub.tups ⟨(Sub.int_eq e1), (Sub.bool_eq e2), trivial⟩)


theorem formedx_w (k n : Int) (s : ByteArray) (l : List CV) (hk : k < 1 ∨ 3 < k) (h : (((s = { data := #[] }) → (((n = (0 : Int)) → (((k < (1 : Int)) → True) ∧ ((¬k < (1 : Int)) → True))) ∧ ((¬n = (0 : Int)) → (((k < (1 : Int)) → True) ∧ ((¬k < (1 : Int)) → True))))) ∧ ((¬s = { data := #[] }) → (((n = (0 : Int)) → (((k < (1 : Int)) → True) ∧ ((¬k < (1 : Int)) → True))) ∧ ((¬n = (0 : Int)) → (((k < (1 : Int)) → True) ∧ ((¬k < (1 : Int)) → True))))))) : CallC P G 85 [vmk k n s l] [] (AOut.ret (AV.tup [int 0, Am.bool false])) [] := by
  have hz0 : Am.Sub (Am.bool (ByteArray.toList s == ByteArray.toList { data := #[] })) (Am.bool (decide (s = { data := #[] }))) := (Sub.of_eq (by simp only [Go.Cdc.str_eq]))
  by_cases c1 : (s = { data := #[] })
  · have h := h.1 c1
    have hz1 : Am.Sub (int (↑(List.length (encL l)) : Int)) (int (↑(List.length l) : Int)) := (Sub.of_eq (by simp only [Go.Cdc.encL_length]))
    by_cases c2 : (n = (0 : Int))
    · have h := h.1 c2
      by_cases c3 : (k < (1 : Int))
      · have h := h.1 c3
        have _ := h
        exact callC_of [kv 11 hz0, kt (decide_eq_true c1), kv 15 hz1, kt (beq_iff_eq.2 c2), kv 24 hz1, kt (beq_iff_eq.2 c2), kv 33 hz0, kt (decide_eq_true c3), kt (Eq.refl true), kt (Eq.refl true)] (by kernel_rfl)
      · have h := h.2 c3
        have _ := h
        exact callC_of [kv 11 hz0, kt (decide_eq_true c1), kv 15 hz1, kt (beq_iff_eq.2 c2), kv 24 hz1, kt (beq_iff_eq.2 c2), kv 33 hz0, kf (decide_eq_false c3), kt (show decide (k > (3 : Int)) = true from (decide_eq_true (by omega))), kt (Eq.refl true)] (by kernel_rfl)
    · have h := h.2 c2
      by_cases c5 : (k < (1 : Int))
      · have h := h.1 c5
        have _ := h
        exact callC_of [kv 11 hz0, kt (decide_eq_true c1), kv 15 hz1, kf (beq_eq_false_iff_ne.2 c2), kf (beq_eq_false_iff_ne.2 c2), kt (decide_eq_true c5), kt (Eq.refl true), kt (Eq.refl true)] (by kernel_rfl)
      · have h := h.2 c5
        have _ := h
        exact callC_of [kv 11 hz0, kt (decide_eq_true c1), kv 15 hz1, kf (beq_eq_false_iff_ne.2 c2), kf (beq_eq_false_iff_ne.2 c2), kf (decide_eq_false c5), kt (show decide (k > (3 : Int)) = true from (decide_eq_true (by omega))), kt (Eq.refl true)] (by kernel_rfl)
  · have h := h.2 c1
    have hz1 : Am.Sub (int (↑(List.length (encL l)) : Int)) (int (↑(List.length l) : Int)) := (Sub.of_eq (by simp only [Go.Cdc.encL_length]))
    by_cases c7 : (n = (0 : Int))
    · have h := h.1 c7
      by_cases c8 : (k < (1 : Int))
      · have h := h.1 c8
        have _ := h
        exact callC_of [kv 11 hz0, kf (decide_eq_false c1), kt (beq_iff_eq.2 c7), kv 24 hz1, kt (beq_iff_eq.2 c7), kv 33 hz0, kt (decide_eq_true c8), kt (Eq.refl true), kt (Eq.refl true)] (by kernel_rfl)
      · have h := h.2 c8
        have _ := h
        exact callC_of [kv 11 hz0, kf (decide_eq_false c1), kt (beq_iff_eq.2 c7), kv 24 hz1, kt (beq_iff_eq.2 c7), kv 33 hz0, kf (decide_eq_false c8), kt (show decide (k > (3 : Int)) = true from (decide_eq_true (by omega))), kt (Eq.refl true)] (by kernel_rfl)
    · have h := h.2 c7
      by_cases c10 : (k < (1 : Int))
      · have h := h.1 c10
        have _ := h
        exact callC_of [kv 11 hz0, kf (decide_eq_false c1), kf (beq_eq_false_iff_ne.2 c7), kf (beq_eq_false_iff_ne.2 c7), kt (decide_eq_true c10), kt (Eq.refl true), kt (Eq.refl true)] (by kernel_rfl)
      · have h := h.2 c10
        have _ := h
        exact callC_of [kv 11 hz0, kf (decide_eq_false c1), kf (beq_eq_false_iff_ne.2 c7), kf (beq_eq_false_iff_ne.2 c7), kf (decide_eq_false c10), kt (show decide (k > (3 : Int)) = true from (decide_eq_true (by omega))), kt (Eq.refl true)] (by kernel_rfl)


def frmSt (l : List CV) (d : Int) (i : Nat) : St := { env := slots 74 [(2, int d), (3, bool false), (55, .sl 4 false (encL l)), (56, int l.length), (57, int i)], H := [] }

theorem frm_end (l : List CV) (d : Int) (i : Nat) (hi : l.length ≤ i) (h : True) : RunL P G none 0 (loopAt P 85 0) (frmSt l d i) (AEx.exit 0) { env := slots 74 [(2, int d), (3, Am.bool false)], H := [] } := by
  have _ := h
  exact loop_exit [kf (show decide ((↑i : Int) < (↑(List.length l) : Int)) = false from (decide_eq_false (by omega)))] (others 74 [2, 3]) 0 (by kernel_rfl)


theorem frm_step (l : List CV) (d i : Nat) (x : CV) (hi : i < l.length) (hl : l.length ≤ 9223372036854775807) (hx : l[i]? = some x) (hd : dp x ≤ 1000000) (hv : CallC P G 85 [val x] [] (.ret (.tup [int (if wf x = true then dp x else 0), bool (wf x)])) []) (ex : AEx) (a : Int) (b : Bool) (h : ((((wf x) = true) → RunL P G none 0 (loopAt P 85 0) { env := slots 74 [(2, int (if (if wf x = true then (↑(dp x) : Int) else 0) > (↑d : Int) then if wf x = true then (↑(dp x) : Int) else 0 else (↑d : Int))), (3, Am.bool false), (55, AV.sl 4 false (encL l)), (56, int (↑(List.length l) : Int)), (57, int (↑(i + 1) : Int))], H := [] } ex { env := slots 74 [(2, int a), (3, Am.bool b)], H := [] }) ∧ (((wf x) = false) → (AEx.ret = ex) ∧ ((0 : Int) = (a)) ∧ ((false) = (b))))) : RunL P G none 0 (loopAt P 85 0) (frmSt l (↑d : Int) i) ex { env := slots 74 [(2, int a), (3, Am.bool b)], H := [] } := by
  have hz0 : decide ((↑i : Int) < (↑(List.length l) : Int)) = true := (decide_eq_true (by omega))
  have hz1 : (0 : Int) ≤ (↑i : Int) ∧ (encL l)[Int.toNat (↑i : Int)]? = some (enc x) := (by rw [Go.Cdc.encL_map]; exact el_nat hx)
  have hz2 := (@hv )
  rcases Bool.eq_false_or_eq_true ((wf x)) with c2 | c2
  · have h := h.1 c2
    exact loop_next [kt hz0, ko (Orc.elem (enc x)), kp hz1, kc [] hz2, kf (show (!wf x) = false from (congrArg Bool.not (c2))), kv 71 (show Am.Sub (int (IntKind.wrap IntKind.i64 ((↑i : Int) + 1))) (int (↑(i + 1) : Int)) from (Sub.of_wrap (by omega) (by omega) (by omega)))] (others 74 [2, 3, 55, 56, 57]) 0 h (by kernel_rfl)
  · have h := h.2 c2
    obtain ⟨eX, e1, e2⟩ := h
    exact RunL.to ((show RunL P G none 0 (loopAt P 85 0) (frmSt l (↑d : Int) i) AEx.ret { env := slots 74 [(2, int 0), (3, Am.bool false)], H := [] } from loop_exit [kt hz0, ko (Orc.elem (enc x)), kp hz1, kc [] hz2, kt (show (!wf x) = true from (congrArg Bool.not (c2)))] (others 74 [2, 3]) 0 (by kernel_rfl))) eX (SubS.slots ⟨rfl, (Sub.int_eq e1), rfl, (Sub.bool_eq e2), trivial⟩)


theorem formed3_w (n : Int) (s : ByteArray) (l : List CV) (a : Int) (b : Bool) (hl : l.length ≤ 9223372036854775807) (hd : dpL l ≤ 1000000) (hL : RunL P G none 0 (loopAt P 85 0) (frmSt l 0 0) (if wfL l = true then .exit 0 else .ret) { env := slots 74 [(2, int (if wfL l = true then dpL l else 0)), (3, bool false)], H := [] }) (h : (((s = { data := #[] }) → (((n = (0 : Int)) → (((wfL l = true) → (((↑(dpL l + 1) : Int) : Int) = (a)) ∧ ((true) = (b))) ∧ ((¬wfL l = true) → ((0 : Int) = (a)) ∧ ((false) = (b))))) ∧ ((¬n = (0 : Int)) → ((0 : Int) = (a)) ∧ ((false) = (b))))) ∧ ((¬s = { data := #[] }) → (((n = (0 : Int)) → ((0 : Int) = (a)) ∧ ((false) = (b))) ∧ ((¬n = (0 : Int)) → ((0 : Int) = (a)) ∧ ((false) = (b))))))) : CallC P G 85 [vmk 3 n s l] [] (AOut.ret (AV.tup [int a, Am.bool b])) [] := by
  have hz0 : Am.Sub (Am.bool (ByteArray.toList s == ByteArray.toList { data := #[] })) (Am.bool (decide (s = { data := #[] }))) := (Sub.of_eq (by simp only [Go.Cdc.str_eq]))
  by_cases c1 : (s = { data := #[] })
  · have h := h.1 c1
    have hz1 : Am.Sub (int (↑(List.length (encL l)) : Int)) (int (↑(List.length l) : Int)) := (Sub.of_eq (by simp only [Go.Cdc.encL_length]))
    have hz3 : (!decide (s = { data := #[] })) = false := (congrArg Bool.not (decide_eq_true c1))
    by_cases c2 : (n = (0 : Int))
    · have h := h.1 c2
      have hz2 : (0 : Int) ≤ (3 : Int) ∧ (3 : Int) < (4 : Int) := (by omega)
      by_cases c3 : (wfL l = true)
      · have h := h.1 c3
        obtain ⟨e1, e2⟩ := h
        exact CallC.out ((show CallC P G 85 [vmk 3 n s l] [] (AOut.ret (AV.tup [int (↑(dpL l + 1) : Int), Am.bool true])) [] from callC_of [kv 11 hz0, kt (decide_eq_true c1), kv 15 hz1, kt (beq_iff_eq.2 c2), kv 24 hz1, kt (beq_iff_eq.2 c2), kv 33 hz0, kf (Eq.refl false), kf (Eq.refl false), kp hz2, kf hz3, kf (Eq.refl false), kv 56 hz1, kl [0, 1, 4, 5, 6, 7, 8, 9, 10, 11, 12, 13, 14, 15, 16, 17, 18, 19, 20, 21, 22, 23, 24, 25, 26, 27, 28, 29, 30, 31, 32, 33, 34, 35, 36, 37, 38, 39, 40, 41, 42, 43, 44, 45, 46, 47, 48, 49, 50, 51, 52, 53, 54, 58, 59, 60, 61, 62, 63, 64, 65, 66, 67, 68, 69, 70, 71, 72, 73] 0 (show RunL P G none 0 (loopAt P 85 0) { env := slots 74 [(2, int 0), (3, Am.bool false), (55, AV.sl 4 false (encL l)), (56, int (↑(List.length l) : Int)), (57, int 0)], H := [] } (AEx.exit 0) { env := slots 74 [(2, int (↑(dpL l) : Int)), (3, Am.bool false)], H := [] } from (by have h0 := (@hL ); simp only [if_pos c3] at h0; exact h0)), kv 73 (show Am.Sub (int (IntKind.wrap IntKind.i64 ((↑(dpL l) : Int) + 1))) (int (↑(dpL l + 1) : Int)) from (Sub.of_wrap (by omega) (by omega) (by omega)))] (by kernel_rfl))) (Sub.tups ⟨(Sub.int_eq e1), (Sub.bool_eq e2), trivial⟩)
      · have h := h.2 c3
        obtain ⟨e1, e2⟩ := h
        exact CallC.out ((show CallC P G 85 [vmk 3 n s l] [] (AOut.ret (AV.tup [int 0, Am.bool false])) [] from callC_of [kv 11 hz0, kt (decide_eq_true c1), kv 15 hz1, kt (beq_iff_eq.2 c2), kv 24 hz1, kt (beq_iff_eq.2 c2), kv 33 hz0, kf (Eq.refl false), kf (Eq.refl false), kp hz2, kf hz3, kf (Eq.refl false), kv 56 hz1, kl [0, 1, 4, 5, 6, 7, 8, 9, 10, 11, 12, 13, 14, 15, 16, 17, 18, 19, 20, 21, 22, 23, 24, 25, 26, 27, 28, 29, 30, 31, 32, 33, 34, 35, 36, 37, 38, 39, 40, 41, 42, 43, 44, 45, 46, 47, 48, 49, 50, 51, 52, 53, 54, 58, 59, 60, 61, 62, 63, 64, 65, 66, 67, 68, 69, 70, 71, 72, 73] 0 (show RunL P G none 0 (loopAt P 85 0) { env := slots 74 [(2, int 0), (3, Am.bool false), (55, AV.sl 4 false (encL l)), (56, int (↑(List.length l) : Int)), (57, int 0)], H := [] } AEx.ret { env := slots 74 [(2, int 0), (3, Am.bool false)], H := [] } from (by have h0 := (@hL ); simp only [if_neg c3] at h0; exact h0))] (by kernel_rfl))) (Sub.tups ⟨(Sub.int_eq e1), (Sub.bool_eq e2), trivial⟩)
    · have h := h.2 c2
      obtain ⟨e1, e2⟩ := h
      exact CallC.out ((show CallC P G 85 [vmk 3 n s l] [] (AOut.ret (AV.tup [int 0, Am.bool false])) [] from callC_of [kv 11 hz0, kt (decide_eq_true c1), kv 15 hz1, kf (beq_eq_false_iff_ne.2 c2), kf (beq_eq_false_iff_ne.2 c2), kf (Eq.refl false), kf (Eq.refl false), kp (show (0 : Int) ≤ (3 : Int) ∧ (3 : Int) < (4 : Int) from (by omega)), kt (Eq.refl true)] (by kernel_rfl))) (Sub.tups ⟨(Sub.int_eq e1), (Sub.bool_eq e2), trivial⟩)
  · have h := h.2 c1
    by_cases c4 : (n = (0 : Int))
    · have h := h.1 c4
      obtain ⟨e1, e2⟩ := h
      exact CallC.out ((show CallC P G 85 [vmk 3 n s l] [] (AOut.ret (AV.tup [int 0, Am.bool false])) [] from callC_of [kv 11 hz0, kf (decide_eq_false c1), kt (beq_iff_eq.2 c4), kv 24 (show Am.Sub (int (↑(List.length (encL l)) : Int)) (int (↑(List.length l) : Int)) from (Sub.of_eq (by simp only [Go.Cdc.encL_length]))), kt (beq_iff_eq.2 c4), kv 33 hz0, kf (Eq.refl false), kf (Eq.refl false), kp (show (0 : Int) ≤ (3 : Int) ∧ (3 : Int) < (4 : Int) from (by omega)), kt (show (!decide (s = { data := #[] })) = true from (congrArg Bool.not (decide_eq_false c1)))] (by kernel_rfl))) (Sub.tups ⟨(Sub.int_eq e1), (Sub.bool_eq e2), trivial⟩)
    · have h := h.2 c4
      obtain ⟨e1, e2⟩ := h
      exact CallC.out ((show CallC P G 85 [vmk 3 n s l] [] (AOut.ret (AV.tup [int 0, Am.bool false])) [] from callC_of [kv 11 hz0, kf (decide_eq_false c1), kf (beq_eq_false_iff_ne.2 c4), kf (beq_eq_false_iff_ne.2 c4), kf (Eq.refl false), kf (Eq.refl false), kp (show (0 : Int) ≤ (3 : Int) ∧ (3 : Int) < (4 : Int) from (by omega)), kt (Eq.refl true)] (by kernel_rfl))) (Sub.tups ⟨(Sub.int_eq e1), (Sub.bool_eq e2), trivial⟩)


theorem frm_loop (l : List CV) (hl : l.length ≤ 9223372036854775807) (hd : dpL l ≤ 1000000) (hv : ∀ x ∈ l, FormedC x) : ∀ (m i d : Nat), l.length - i = m → i ≤ l.length → d ≤ 1000000 →
    RunL P G none 0 (loopAt P 85 0) (frmSt l d i) (if wfL (l.drop i) = true then .exit 0 else .ret) { env := slots 74 [(2, int (if wfL (l.drop i) = true then ((max d (dpL (l.drop i)) : Nat) : Int) else 0)), (3, bool false)], H := [] } := by
  intro m
  induction m with
  | zero =>
    intro i d hm hi hd'
    rw [List.drop_of_length_le (by omega)]
    simp only [wfL, dpL, if_true, Nat.max_zero]
    exact frm_end l d i (by omega) trivial
  | succ m ih =>
    intro i d hm hi hd'
    have hlt : i < l.length := by omega
    have hx : l[i]? = some l[i] := List.getElem?_eq_getElem hlt
    have hmem : l[i] ∈ l := List.getElem_mem hlt
    have hdx := dp_mem hmem
    have e := List.drop_eq_getElem_cons hlt
    refine frm_step l d i l[i] hlt hl hx (by omega) (hv _ hmem) _ _ _ ⟨fun h => ?_, fun h => ?_⟩
    · have := ih (i + 1) (max d (dp l[i])) (by omega) (by omega) (by omega)
      rw [e]
      simp only [wfL, dpL, h, Bool.true_and, if_true]
      have e2 : (if ((dp l[i] : Nat) : Int) > (d : Int) then ((dp l[i] : Nat) : Int) else (d : Int)) = ((max d (dp l[i]) : Nat) : Int) := by
        split <;> omega
      rw [e2]
      unfold frmSt at this
      rw [show max d (max (dp l[i]) (dpL (l.drop (i + 1)))) = max (max d (dp l[i])) (dpL (l.drop (i + 1))) by omega]
      exact this
    · rw [e]
      simp only [wfL, h, Bool.false_and, Bool.false_eq_true, if_false]
      exact ⟨trivial, trivial, trivial⟩

theorem formed_c (v : CV) : Okv v → dp v ≤ 1000001 → FormedC v := by
  refine CV.ind (p := fun v => Okv v → dp v ≤ 1000001 → FormedC v) (fun k n s l ih hok hd => ?_) v
  cases hok with
  | mk _ _ _ _ hn hs hl hall =>
    unfold FormedC
    rw [val_mk]
    by_cases h1 : k = 1
    · subst h1
      have e : ((if wf (.mk 1 n s l) = true then dp (.mk 1 n s l) else 0 : Nat) : Int) = 0 := by simp [dp]
      have e' : (if wf (.mk 1 n s l) = true then ((dp (.mk 1 n s l) : Nat) : Int) else 0) = 0 := by simp [dp]
      rw [e']
      have ew : wf (.mk 1 n s l) = (decide (s = .empty) && decide (l.length = 0)) := by simp [wf]
      rw [ew]
      have T : s = .empty → (l.length : Int) = 0 → (0 : Int) = 0 ∧ true = (decide (s = .empty) && decide (l.length = 0)) := fun a b => ⟨rfl, by rw [decide_eq_true a, decide_eq_true (by omega)]; rfl⟩
      have F1 : s = .empty → ¬ (l.length : Int) = 0 → (0 : Int) = 0 ∧ false = (decide (s = .empty) && decide (l.length = 0)) := fun a b => ⟨rfl, by rw [decide_eq_true a, decide_eq_false (by omega)]; rfl⟩
      have F2 : ¬ s = .empty → (0 : Int) = 0 ∧ false = (decide (s = .empty) && decide (l.length = 0)) := fun a => ⟨rfl, by rw [decide_eq_false a]; rfl⟩
      exact formed1_w n s l _ _ ⟨fun a => ⟨fun _ => ⟨T a, F1 a⟩, fun _ => ⟨T a, F1 a⟩⟩, fun a => ⟨fun _ => F2 a, fun _ => F2 a⟩⟩
    · by_cases h2 : k = 2
      · subst h2
        have e' : (if wf (.mk 2 n s l) = true then ((dp (.mk 2 n s l) : Nat) : Int) else 0) = 0 := by simp [dp]
        rw [e']
        have ew : wf (.mk 2 n s l) = (decide (n = 0) && decide (l.length = 0)) := by simp [wf]
        rw [ew]
        have T : n = 0 → (l.length : Int) = 0 → (0 : Int) = 0 ∧ true = (decide (n = 0) && decide (l.length = 0)) := fun a b => ⟨rfl, by rw [decide_eq_true a, decide_eq_true (by omega)]; rfl⟩
        have F1 : n = 0 → ¬ (l.length : Int) = 0 → (0 : Int) = 0 ∧ false = (decide (n = 0) && decide (l.length = 0)) := fun a b => ⟨rfl, by rw [decide_eq_true a, decide_eq_false (by omega)]; rfl⟩
        have F2 : ¬ n = 0 → (0 : Int) = 0 ∧ false = (decide (n = 0) && decide (l.length = 0)) := fun a => ⟨rfl, by rw [decide_eq_false a]; rfl⟩
        exact formed2_w n s l _ _ ⟨fun _ => ⟨fun a => ⟨T a, F1 a⟩, F2⟩, fun _ => ⟨fun a => ⟨T a, F1 a⟩, F2⟩⟩
      · by_cases h3 : k = 3
        · subst h3
          have hd3 : dpL l ≤ 1000000 := by simp only [dp, if_true] at hd; omega
          have hL := frm_loop l hl hd3 (fun x hx => ih x hx (hall x hx) (by have := dp_mem hx; omega)) l.length 0 0 (by omega) (by omega) (by omega)
          rw [List.drop_zero, Nat.zero_max] at hL
          have ew : wf (.mk 3 n s l) = (decide (n = 0) && decide (s = .empty) && wfL l) := by simp [wf]
          have ed : dp (.mk 3 n s l) = dpL l + 1 := by simp [dp]
          rw [ew, ed]
          refine formed3_w n s l _ _ hl hd3 hL ⟨fun hs => ⟨fun hn => ⟨fun hw => ?_, fun hw => ?_⟩, fun hn => ?_⟩, fun hs => ⟨fun hn => ?_, fun hn => ?_⟩⟩ <;>
            (rw [empty_eq] at hs; simp [hn, hs]) <;> (try simp [hw])
        · have e : wf (.mk k n s l) = false := by simp [wf, h1, h2, h3]
          rw [e]
          simp only [Bool.false_eq_true, if_false]
          exact formedx_w k n s l (by omega) (by simp)

end Go.Cdc

/- THE ABSTRACT MACHINE, 27: own slices in boxes put as data at a loop's end. -/
namespace Go.Am
set_option maxRecDepth 100000
open Go
section
variable {P : Program} {G : Nat → Option (List AV)}

/-- A loop's end, an own slice in a box's cell put as data. -/
theorem frzBox_step {V : View} {b j : Nat} {cells : List AV} {x y : AV} {z : List (List AV)} {H1 : List AObj} {ps : List Prop} (hG : HeapRep G V) (hb : V.H[b]? = some (.box cells)) (hb1 : H1[b]? = some (.box cells)) (hj : cells[j]? = some x)
    (ha : evalFrz V.H x z = some (y, H1, ps)) (hps : AllP ps) : ∃ V' : View, V'.w = V.w ∧ V'.H = H1.set b (.box (cells.set j y)) ∧ Step V V' ∧ HeapRep G V' := by
  obtain ⟨t, vs, h1, h2⟩ := hG.obj b _ hb
  have hjl := (List.getElem?_eq_some_iff.1 hj).1
  have hx : Rep V x (vs.getD j undef) := by
    have := h2.2 j hjl
    rwa [show cells.getD j .dead = x by rw [List.getD_eq_getElem?_getD, hj]; rfl] at this
  obtain ⟨V1, k1, k2, k3, k4, k5⟩ := frz_sound ha hps hG hx
  have hob := k4.obj b _ (by rw [k2]; exact hb1)
  obtain ⟨t', vs', o1, o2⟩ := hob
  have hρ : V1.ρ b = V.ρ b := by
    have hlt := (List.getElem?_eq_some_iff.1 hb).1
    have := k3.obj b hlt
    unfold ObjStep at this
    rw [hb, k2, hb1] at this
    exact this
  have hev : vs' = vs := by
    rw [hρ, k1, h1] at o1
    injection o1 with o1
    injection o1 with o1
    simpa using o1.symm
  subst hev
  have hr : Reps V1 (cells.set j y) vs' := by
    have := o2.set j k5
    have e : vs'.set j (vs'.getD j undef) = vs' := by
      apply List.ext_getElem?
      intro i
      rw [List.getElem?_set]
      split
      · rename_i e; subst e
        have : j < vs'.length := by rw [o2.1]; exact hjl
        rw [if_pos this, List.getD_eq_getElem?_getD, List.getElem?_eq_getElem this]; rfl
      · rfl
    rwa [e] at this
  obtain ⟨V2, l1, l2, l3, l4⟩ := step_set (obj := .box cells) (obj' := .box (cells.set j y)) (w' := V1.w) k4 (by rw [k2]; exact hb1) rfl o1 o1 rfl (fun _ _ => rfl) rfl rfl rfl rfl trivial (fun V' hw hs => ⟨t', vs', by rw [hw]; exact o1, hr.step hs⟩)
  exact ⟨V2, l1.trans k1, by rw [l2, k2], k3.trans l3, l4⟩
theorem RunL.frzBox {r : Option Nat} {n0 : Nat} {c : Code} {s s' : St} {ex : AEx} {b j : Nat} {cells : List AV} {x y : AV} {z : List (List AV)} {H1 : List AObj} {ps : List Prop} (h : RunL P G r n0 c s ex s') (hb : s'.H[b]? = some (.box cells)) (hb1 : H1[b]? = some (.box cells)) (hj : cells[j]? = some x)
    (ha : evalFrz s'.H x z = some (y, H1, ps)) (hps : AllP ps) : RunL P G r n0 c s ex { env := s'.env, H := H1.set b (.box (cells.set j y)), defs := s'.defs } :=
  fun V0 V a h0 k1 k2 k3 => LoopIn.mono (h V0 V a h0 k1 k2 k3) fun _ _ _ hE => by
    obtain ⟨V1, rfl, l1, l2, l3, l4⟩ := hE
    obtain ⟨V2, a1, a2, a3, a4⟩ := frzBox_step l2 (l3.H ▸ hb) hb1 hj (l3.H ▸ ha) hps
    exact ⟨V2, a1, l1.trans a3, a4, ⟨l3.env.step a3, a2, l3.defs.step a3⟩, l4.step a3⟩
/-- A loop's end, its last objects let go. -/
theorem RunL.cut {r : Option Nat} {n0 : Nat} {c : Code} {s s' s2 : St} {ex : AEx} {ps : List Prop} (n : Nat) (h : RunL P G r n0 c s ex s') (hex : ∀ x, ex ≠ .pan x) (hw : weakA n0 [] n s' = some (s2, ps)) (hps : AllP ps) : RunL P G r n0 c s ex s2 :=
  fun V0 V a h0 k1 k2 k3 => LoopIn.mono (h V0 V a h0 k1 k2 k3) fun e _ _ hE => by
    obtain ⟨V1, rfl, l1, l2, l3, l4⟩ := hE
    obtain ⟨V2, m1, m2, m3, m4⟩ := weak_sound hw hps h0 l1 l2 l3
    exact ⟨V2, m1, m2, m3, m4, by cases ex <;> cases e <;> first | exact l4 | exact (hex _ rfl).elim⟩
end
end Go.Am

/- OPS, 6: the program's Encode. -/
namespace Go.Ops
set_option maxRecDepth 100000
set_option linter.unusedSimpArgs false
set_option linter.unusedVariables false
open Go Go.Am Go.Proofs Go.Seat Go.Vec Go.Cdc

def cvI (n : Int) : CV := .mk 1 n .empty []
def cvT (s : ByteArray) : CV := .mk 2 0 s []
def cvL (l : List CV) : CV := .mk 3 0 .empty l

theorem num_w (n : Int) (h : True) : CallC P G 45 [int n] [] (AOut.ret (vmk 1 n ByteArray.empty [])) [] := by
  have _ := h
  exact CallC.out ((show CallC P G 45 [int n] [] (AOut.ret (AV.agg [int 1, int n, str { data := #[] }, nilS])) [] from callC_of [] (by kernel_rfl))) (Sub.aggs ⟨Sub.refl _, Sub.refl _, Sub.refl _, Sub.nil _, trivial⟩)

theorem text_w (s : ByteArray) (h : True) : CallC P G 46 [str s] [] (AOut.ret (vmk 2 0 s [])) [] := by
  have _ := h
  exact CallC.out ((show CallC P G 46 [str s] [] (AOut.ret (AV.agg [int 2, int 0, str s, nilS])) [] from callC_of [] (by kernel_rfl))) (Sub.aggs ⟨Sub.refl _, Sub.refl _, Sub.refl _, Sub.nil _, trivial⟩)

theorem list_w (t : Bool) (xs : List (List AV)) (h : True) : CallC P G 44 [AV.sl 4 t xs] [] (AOut.ret (AV.agg [int 3, int 0, str ByteArray.empty, AV.sl 4 false xs])) [] := by
  have _ := h
  exact CallC.out ((show CallC P G 44 [AV.sl 4 t xs] [] (AOut.ret (AV.agg [int 3, int 0, str { data := #[] }, AV.sl 4 t xs])) [] from callC_of [] (by kernel_rfl))) (Sub.aggs ⟨Sub.refl _, Sub.refl _, Sub.refl _, (Sub.loose _ _ _), trivial⟩)

theorem list_0  (h : True) : CallC P G 44 [nilS] [] (AOut.ret (AV.agg [int 3, int 0, str ByteArray.empty, nilS])) [] := by
  have _ := h
  exact callC_of [] (by kernel_rfl)

theorem num_c (n : Int) : CallC P G 45 [int n] [] (.ret (vmk 1 n .empty [])) [] := num_w n trivial
theorem text_c (s : ByteArray) : CallC P G 46 [str s] [] (.ret (vmk 2 0 s [])) [] := text_w s trivial
theorem list_c (t : Bool) (xs : List (List AV)) : CallC P G 44 [.sl 4 t xs] [] (.ret (.agg [int 3, int 0, str .empty, .sl 4 false xs])) [] := list_w t xs trivial
theorem list0_c : CallC P G 44 [nilS] [] (.ret (.agg [int 3, int 0, str .empty, nilS])) [] := list_0 trivial

theorem id_w (a b c : Int) (h : True) : CallC P G 47 [ida a b c] [] (AOut.ret (vmk 3 0 ByteArray.empty [cvI a, cvI b, cvI c])) [] := by
  have _ := h
  exact callC_of [kc [] (@Go.Ops.num_c (a)), kc [] (@Go.Ops.num_c (b)), kc [] (@Go.Ops.num_c (c)), kc [] (@Go.Ops.list_c (true) ([[int 1, int a, str ByteArray.empty, AV.sl 4 false []], [int 1, int b, str ByteArray.empty, AV.sl 4 false []], [int 1, int c, str ByteArray.empty, AV.sl 4 false []]]))] (by kernel_rfl)

theorem id_c (a b c : Int) : CallC P G 47 [ida a b c] [] (.ret (vmk 3 0 .empty [cvI a, cvI b, cvI c])) [] := id_w a b c trivial

def cvD (d : D) : CV := cvL [cvI d.1, cvI d.2]
def encSt0 (o : OP) (k : Nat) : St := { env := slots 85 [(1, .ptr 0 0), (5, .ptr 1 0), (16, vec o.cx), (17, int o.cx.length), (18, int k)], H := [.box (opc o), .box [int 3, int 0, str .empty, nilS]] }
def encSt1 (o : OP) (g : Nat) (cs : List CV) (k : Nat) : St := { env := slots 85 [(1, .ptr 0 0), (5, .ptr 1 0), (16, vec o.cx), (17, int o.cx.length), (18, int k)], H := [.box (opc o), .box [int 3, int 0, str .empty, .own 3 g 0 cs.length], .gone, .arr g 4 false (encL cs)] }

theorem el0_w (o : OP) (k : Nat) (x y : Int) (hk : k < o.cx.length) (hx : o.cx[k]? = some (x, y)) (hl : o.cx.length ≤ 1000000000) (ex : AEx) (s' : St) (h : RunL P G none 0 (loopAt P 18 0) { env := slots 85 [(1, AV.ptr 0 0), (5, AV.ptr 1 0), (16, AV.sl 2 false (encs (OP.cx o))), (17, int (↑(List.length (OP.cx o)) : Int)), (18, int (↑(k + 1) : Int))], H := [AObj.box [int (OP.dv o), int (OP.sq o), int (OP.tm o), AV.sl 2 false (encs (OP.cx o)), int (OP.pk o), str (OP.pn o), int (OP.kd o), int (OP.f1 o), int (OP.f2 o), int (OP.f3 o), int (OP.t1 o), int (OP.t2 o), int (OP.t3 o), str (OP.ky o), str (OP.vl o), int (OP.n o), Am.bool (OP.on o)], AObj.box [int 3, int 0, str ByteArray.empty, AV.own 3 0 0 1], AObj.box [int x, int y], AObj.arr 0 4 false [[int 3, int 0, str ByteArray.empty, AV.sl 4 false [[int 1, int x, str ByteArray.empty, AV.sl 4 false []], [int 1, int y, str ByteArray.empty, AV.sl 4 false []]]]]] } ex s') : RunL P G none 0 (loopAt P 18 0) (encSt0 o k) ex s' := by
  exact loop_next [kt (show decide ((↑k : Int) < (↑(List.length (OP.cx o)) : Int)) = true from (decide_eq_true (by omega))), ko (Orc.elem (Vec.enc (x, y))), kp (show (0 : Int) ≤ (↑k : Int) ∧ (encs (OP.cx o))[Int.toNat (↑k : Int)]? = some (Vec.enc (x, y)) from (el_nat hx)), kc [] (@Go.Ops.num_c (x)), kc [] (@Go.Ops.num_c (y)), kc [] (@Go.Ops.list_c (true) ([[int 1, int x, str ByteArray.empty, AV.sl 4 false []], [int 1, int y, str ByteArray.empty, AV.sl 4 false []]])), kp (show [[int 3, int 0, str ByteArray.empty, AV.sl 4 false [[int 1, int x, str ByteArray.empty, AV.sl 4 false []], [int 1, int y, str ByteArray.empty, AV.sl 4 false []]]]] ≠ [] from (by simp)), kp (show 56 ≤ 140737488355328 from (by omega)), kv 35 (show Am.Sub (int (IntKind.wrap IntKind.i64 ((↑k : Int) + 1))) (int (↑(k + 1) : Int)) from (Sub.of_wrap (by omega) (by omega) (by omega)))] (others 85 [1, 5, 16, 17, 18]) 4 h (by kernel_rfl)

theorem el1_w (o : OP) (g : Nat) (cs : List CV) (k : Nat) (x y : Int) (hk : k < o.cx.length) (hx : o.cx[k]? = some (x, y)) (hl : o.cx.length ≤ 1000000000) (hcs : cs.length ≤ 1000000000) (ex : AEx) (s' : St) (h : ((∀ (x_1 : List AV), x_1 ∈ encL cs ++ chunks (TypeInfo.size (Tables.types (Program.toTables P))[46]) 1 (splice (zerosA (List.map AV.lit (Array.toList (Value.cells (Value.agg #[Value.int IntKind.i64 0, Value.int IntKind.i64 0, Value.string { data := #[] }, Value.slice none 0 0])))) (1 * TypeInfo.size (Tables.types (Program.toTables P))[46])) (0 * TypeInfo.size (Tables.types (Program.toTables P))[46]) [int 3, int 0, str ByteArray.empty, AV.sl 4 false [[int 1, int x, str ByteArray.empty, AV.sl 4 false []], [int 1, int y, str ByteArray.empty, AV.sl 4 false []]]]) → AV.idsInL [] x_1 = true) ∧ RunL P G none 0 (loopAt P 18 0) { env := slots 85 [(1, AV.ptr 0 0), (5, AV.ptr 1 0), (16, AV.sl 2 false (encs (OP.cx o))), (17, int (↑(List.length (OP.cx o)) : Int)), (18, int (↑(k + 1) : Int))], H := [AObj.box [int (OP.dv o), int (OP.sq o), int (OP.tm o), AV.sl 2 false (encs (OP.cx o)), int (OP.pk o), str (OP.pn o), int (OP.kd o), int (OP.f1 o), int (OP.f2 o), int (OP.f3 o), int (OP.t1 o), int (OP.t2 o), int (OP.t3 o), str (OP.ky o), str (OP.vl o), int (OP.n o), Am.bool (OP.on o)], AObj.box [int 3, int 0, str ByteArray.empty, AV.own 3 (g + 1) 0 (List.length cs + 1)], AObj.gone, AObj.arr (g + 1) 4 false (encL cs ++ [[int 3, int 0, str ByteArray.empty, AV.sl 4 false [[int 1, int x, str ByteArray.empty, AV.sl 4 false []], [int 1, int y, str ByteArray.empty, AV.sl 4 false []]]]])] } ex s')) : RunL P G none 0 (loopAt P 18 0) (encSt1 o g cs k) ex s' := by
  obtain ⟨o2, h⟩ := h
  exact loop_next [kt (show decide ((↑k : Int) < (↑(List.length (OP.cx o)) : Int)) = true from (decide_eq_true (by omega))), ko (Orc.elem (Vec.enc (x, y))), kp (show (0 : Int) ≤ (↑k : Int) ∧ (encs (OP.cx o))[Int.toNat (↑k : Int)]? = some (Vec.enc (x, y)) from (el_nat hx)), kc [] (@Go.Ops.num_c (x)), kc [] (@Go.Ops.num_c (y)), kc [] (@Go.Ops.list_c (true) ([[int 1, int x, str ByteArray.empty, AV.sl 4 false []], [int 1, int y, str ByteArray.empty, AV.sl 4 false []]])), kp (show g = g from (rfl)), kp (show List.length cs = List.length (encL cs) from ((Go.Cdc.encL_length _).symm)), kp (show (List.length cs + 1) * 56 ≤ 140737488355328 from (by omega)), kv 35 (show Am.Sub (int (IntKind.wrap IntKind.i64 ((↑k : Int) + 1))) (int (↑(k + 1) : Int)) from (Sub.of_wrap (by omega) (by omega) (by omega))), kp o2] (others 85 [1, 5, 16, 17, 18]) 4 h (by kernel_rfl)

theorem el0_end (o : OP) (k : Nat) (hk : o.cx.length ≤ k) (h : True) : RunL P G none 0 (loopAt P 18 0) (encSt0 o k) (AEx.exit 0) { env := slots 85 [(1, AV.ptr 0 0), (5, AV.ptr 1 0)], H := [AObj.box (opc o), AObj.box [int 3, int 0, str ByteArray.empty, nilS]] } := by
  have _ := h
  exact loop_exit [kf (show decide ((↑k : Int) < (↑(List.length (OP.cx o)) : Int)) = false from (decide_eq_false (by omega)))] (others 85 [1, 5]) 2 (by kernel_rfl)

theorem el1_end (o : OP) (g : Nat) (cs : List CV) (k : Nat) (hk : o.cx.length ≤ k) (h : True) : RunL P G none 0 (loopAt P 18 0) (encSt1 o g cs k) (AEx.exit 0) { env := slots 85 [(1, AV.ptr 0 0), (5, AV.ptr 1 0)], H := [AObj.box (opc o), AObj.box [int 3, int 0, str ByteArray.empty, AV.own 3 g 0 (List.length cs)], AObj.gone, AObj.arr g 4 false (encL cs)] } := by
  have _ := h
  exact loop_exit [kf (show decide ((↑k : Int) < (↑(List.length (OP.cx o)) : Int)) = false from (decide_eq_false (by omega)))] (others 85 [1, 5]) 4 (by kernel_rfl)

theorem encL_snoc (l : List CV) (v : CV) : encL l ++ [enc v] = encL (l ++ [v]) := by
  rw [encL_map, encL_map, List.map_append]; rfl
theorem encL_idsIn (l : List CV) : ∀ x ∈ encL l, AV.idsInL [] x = true := by
  intro x hx
  rw [encL_map] at hx
  obtain ⟨v, _, rfl⟩ := List.mem_map.1 hx
  cases v; rfl
theorem encL_pure (l : List CV) : ∀ x ∈ encL l, x.all AV.pureB = true := by
  intro x hx
  rw [encL_map] at hx
  obtain ⟨v, _, rfl⟩ := List.mem_map.1 hx
  cases v; rfl
def ctxV (o : OP) : CV := cvL (o.cx.map cvD)

theorem el1_loop (o : OP) (hl : o.cx.length ≤ 1000000000) : ∀ (m k g : Nat), o.cx.length - k = m → k ≤ o.cx.length →
    ∃ g', RunL P G none 0 (loopAt P 18 0) (encSt1 o g ((o.cx.take k).map cvD) k) (.exit 0) { env := slots 85 [(1, .ptr 0 0), (5, .ptr 1 0)], H := [.box (opc o), .box [int 3, int 0, str .empty, .own 3 g' 0 (o.cx.map cvD).length], .gone, .arr g' 4 false (encL (o.cx.map cvD))] } := by
  intro m
  induction m with
  | zero =>
    intro k g hm hk
    have e : o.cx.take k = o.cx := List.take_of_length_le (by omega)
    rw [e]
    exact ⟨g, el1_end o g _ k (by omega) trivial⟩
  | succ m ih =>
    intro k g hm hk
    have hlt : k < o.cx.length := by omega
    obtain ⟨g', h⟩ := ih (k + 1) (g + 1) (by omega) (by omega)
    refine ⟨g', el1_w o g _ k o.cx[k].1 o.cx[k].2 hlt (by rw [List.getElem?_eq_getElem hlt]) hl (by simp; omega) _ _ ⟨fun x hx => ?_, ?_⟩⟩
    · rcases List.mem_append.1 hx with hx | hx
      · exact encL_idsIn _ x hx
      · have : x = enc (cvD o.cx[k]) := List.mem_singleton.1 hx
        subst this; rfl
    · have e : (o.cx.take (k + 1)).map cvD = (o.cx.take k).map cvD ++ [cvD o.cx[k]] := by
        rw [List.take_add_one, List.getElem?_eq_getElem hlt, List.map_append]; rfl
      rw [e] at h
      unfold encSt1 at h
      rw [← encL_snoc, List.length_append] at h
      exact h
theorem el_loop (o : OP) (hl : o.cx.length ≤ 1000000000) :
    (o.cx = [] ∧ RunL P G none 0 (loopAt P 18 0) (encSt0 o 0) (.exit 0) { env := slots 85 [(1, .ptr 0 0), (5, .ptr 1 0)], H := [.box (opc o), .box [int 3, int 0, str .empty, nilS]] }) ∨
    ∃ g', RunL P G none 0 (loopAt P 18 0) (encSt0 o 0) (.exit 0) { env := slots 85 [(1, .ptr 0 0), (5, .ptr 1 0)], H := [.box (opc o), .box [int 3, int 0, str .empty, .own 3 g' 0 (o.cx.map cvD).length], .gone, .arr g' 4 false (encL (o.cx.map cvD))] } := by
  by_cases h0 : o.cx.length = 0
  · exact .inl ⟨List.eq_nil_of_length_eq_zero h0, el0_end o 0 (by omega) trivial⟩
  · have hlt : 0 < o.cx.length := by omega
    obtain ⟨g', h⟩ := el1_loop o hl (o.cx.length - 1) 1 0 rfl (by omega)
    refine .inr ⟨g', el0_w o 0 o.cx[0].1 o.cx[0].2 hlt (by rw [List.getElem?_eq_getElem hlt]) hl _ _ ?_⟩
    have e : (o.cx.take 1).map cvD = [cvD o.cx[0]] := by
      rw [List.take_one, List.head?_eq_getElem?, List.getElem?_eq_getElem hlt]; rfl
    rw [e] at h
    exact RunL.preH h ⟨.inl rfl, .inl rfl, .inr trivial, .inl rfl, trivial⟩
/-- The loop over the context: it leaves the context's value. -/
theorem el_c (o : OP) (hl : o.cx.length ≤ 1000000000) : (o.cx = [] ∧ RunL P G none 0 (loopAt P 18 0) (encSt0 o 0) (.exit 0) { env := slots 85 [(1, .ptr 0 0), (5, .ptr 1 0)], H := [.box (opc o), .box (enc (ctxV o))] }) ∨
    RunL P G none 0 (loopAt P 18 0) (encSt0 o 0) (.exit 0) { env := slots 85 [(1, .ptr 0 0), (5, .ptr 1 0)], H := [.box (opc o), .box (enc (ctxV o)), .gone, .gone] } := by
  rcases el_loop o hl with ⟨h0, h⟩ | ⟨g', h⟩
  · refine .inl ⟨h0, RunL.postH h ⟨.inl rfl, .inr ⟨rfl, fun j hj => ?_⟩, trivial⟩⟩
    unfold ctxV
    rw [h0]
    match j, hj with
    | 0, _ => exact Sub.refl _
    | 1, _ => exact Sub.refl _
    | 2, _ => exact Sub.refl _
    | 3, _ => exact Sub.nil 4
  · refine .inr ?_
    have h2 := RunL.frzBox (b := 1) (j := 3) (z := encL (o.cx.map cvD)) h rfl (H1 := [.box (opc o), .box [int 3, int 0, str .empty, .own 3 g' 0 (o.cx.map cvD).length], .gone, .arr g' 4 true (encL (o.cx.map cvD))]) rfl rfl rfl ⟨rfl, encL_all _, encL_length _, encL_pure _, trivial⟩
    exact RunL.postH h2 ⟨.inl rfl, .inl rfl, .inl rfl, .inr trivial, trivial⟩

/-- An operation as a value. -/
def opW (o : OP) (b : Int) : CV := cvL [cvI o.dv, cvI o.sq, cvI o.tm, ctxV o, cvL [cvI o.pk, cvT o.pn], cvI o.kd, cvL [cvI o.f1, cvI o.f2, cvI o.f3], cvL [cvI o.t1, cvI o.t2, cvI o.t3], cvT o.ky, cvT o.vl, cvI o.n, cvI b]
def opV (o : OP) : CV := opW o (if o.on = true then 1 else 0)

theorem enc_t0 (o : OP) (l : List UInt8) (e : Int) (hon : o.on = true) (hc : CallC P G 12 [op o] [] (.ret (int 0)) []) (hL : RunL P G none 0 (loopAt P 18 0) (encSt0 o 0) (.exit 0) { env := slots 85 [(1, .ptr 0 0), (5, .ptr 1 0)], H := [.box (opc o), .box (enc (ctxV o))] }) (he : CallC P G 30 [val (opW o 1)] [] (.ret (.tup [byt l, int e])) []) (h : True) : CallC P G 18 [op o] [] (AOut.ret (AV.tup [byt l, int e])) [] := by
  have _ := h
  exact callC_of [kc [] (@hc ), kf (Eq.refl false), kc [] (@Go.Ops.list0_c ), kv 17 (show Am.Sub (int (↑(List.length (encs (OP.cx o))) : Int)) (int (↑(List.length (OP.cx o)) : Int)) from (Sub.of_eq (by simp only [Go.Vec.encs_length]))), kl [0, 2, 3, 4, 6, 7, 8, 9, 10, 11, 12, 13, 14, 15, 19, 20, 21, 22, 23, 24, 25, 26, 27, 28, 29, 30, 31, 32, 33, 34, 35, 36, 37, 38, 39, 40, 41, 42, 43, 44, 45, 46, 47, 48, 49, 50, 51, 52, 53, 54, 55, 56, 57, 58, 59, 60, 61, 62, 63, 64, 65, 66, 67, 68, 69, 70, 71, 72, 73, 74, 75, 76, 77, 78, 79, 80, 81, 82, 83, 84] 2 (@hL ), kt hon, kc [] (@Go.Ops.num_c (OP.dv o)), kc [] (@Go.Ops.num_c (OP.sq o)), kc [] (@Go.Ops.num_c (OP.tm o)), kc [] (@Go.Ops.num_c (OP.pk o)), kc [] (@Go.Ops.text_c (OP.pn o)), kc [] (@Go.Ops.list_c (true) ([[int 1, int (OP.pk o), str ByteArray.empty, AV.sl 4 false []], [int 2, int 0, str (OP.pn o), AV.sl 4 false []]])), kc [] (@Go.Ops.num_c (OP.kd o)), kc [] (@Go.Ops.id_c (OP.f1 o) (OP.f2 o) (OP.f3 o)), kc [] (@Go.Ops.id_c (OP.t1 o) (OP.t2 o) (OP.t3 o)), kc [] (@Go.Ops.text_c (OP.ky o)), kc [] (@Go.Ops.text_c (OP.vl o)), kc [] (@Go.Ops.num_c (OP.n o)), kc [] (@Go.Ops.num_c (1)), kc [] (@Go.Ops.list_c (true) ([[int 1, int (OP.dv o), str ByteArray.empty, AV.sl 4 false []], [int 1, int (OP.sq o), str ByteArray.empty, AV.sl 4 false []], [int 1, int (OP.tm o), str ByteArray.empty, AV.sl 4 false []], [int (CV.k (ctxV o)), int (CV.n (ctxV o)), str (CV.s (ctxV o)), AV.sl 4 false (encL (CV.l (ctxV o)))], [int 3, int 0, str ByteArray.empty, AV.sl 4 false [[int 1, int (OP.pk o), str ByteArray.empty, AV.sl 4 false []], [int 2, int 0, str (OP.pn o), AV.sl 4 false []]]], [int 1, int (OP.kd o), str ByteArray.empty, AV.sl 4 false []], [int 3, int 0, str ByteArray.empty, AV.sl 4 false [[int 1, int (OP.f1 o), str ByteArray.empty, AV.sl 4 false []], [int 1, int (OP.f2 o), str ByteArray.empty, AV.sl 4 false []], [int 1, int (OP.f3 o), str ByteArray.empty, AV.sl 4 false []]]], [int 3, int 0, str ByteArray.empty, AV.sl 4 false [[int 1, int (OP.t1 o), str ByteArray.empty, AV.sl 4 false []], [int 1, int (OP.t2 o), str ByteArray.empty, AV.sl 4 false []], [int 1, int (OP.t3 o), str ByteArray.empty, AV.sl 4 false []]]], [int 2, int 0, str (OP.ky o), AV.sl 4 false []], [int 2, int 0, str (OP.vl o), AV.sl 4 false []], [int 1, int (OP.n o), str ByteArray.empty, AV.sl 4 false []], [int 1, int 1, str ByteArray.empty, AV.sl 4 false []]])), kc [] (@he )] (by kernel_rfl)


theorem enc_t1 (o : OP) (l : List UInt8) (e : Int) (hon : o.on = true) (hc : CallC P G 12 [op o] [] (.ret (int 0)) []) (hL : RunL P G none 0 (loopAt P 18 0) (encSt0 o 0) (.exit 0) { env := slots 85 [(1, .ptr 0 0), (5, .ptr 1 0)], H := [.box (opc o), .box (enc (ctxV o)), .gone, .gone] }) (he : CallC P G 30 [val (opW o 1)] [] (.ret (.tup [byt l, int e])) []) (h : True) : CallC P G 18 [op o] [] (AOut.ret (AV.tup [byt l, int e])) [] := by
  have _ := h
  exact callC_of [kc [] (@hc ), kf (Eq.refl false), kc [] (@Go.Ops.list0_c ), kv 17 (show Am.Sub (int (↑(List.length (encs (OP.cx o))) : Int)) (int (↑(List.length (OP.cx o)) : Int)) from (Sub.of_eq (by simp only [Go.Vec.encs_length]))), kl [0, 2, 3, 4, 6, 7, 8, 9, 10, 11, 12, 13, 14, 15, 19, 20, 21, 22, 23, 24, 25, 26, 27, 28, 29, 30, 31, 32, 33, 34, 35, 36, 37, 38, 39, 40, 41, 42, 43, 44, 45, 46, 47, 48, 49, 50, 51, 52, 53, 54, 55, 56, 57, 58, 59, 60, 61, 62, 63, 64, 65, 66, 67, 68, 69, 70, 71, 72, 73, 74, 75, 76, 77, 78, 79, 80, 81, 82, 83, 84] 2 (@hL ), kt hon, kc [] (@Go.Ops.num_c (OP.dv o)), kc [] (@Go.Ops.num_c (OP.sq o)), kc [] (@Go.Ops.num_c (OP.tm o)), kc [] (@Go.Ops.num_c (OP.pk o)), kc [] (@Go.Ops.text_c (OP.pn o)), kc [] (@Go.Ops.list_c (true) ([[int 1, int (OP.pk o), str ByteArray.empty, AV.sl 4 false []], [int 2, int 0, str (OP.pn o), AV.sl 4 false []]])), kc [] (@Go.Ops.num_c (OP.kd o)), kc [] (@Go.Ops.id_c (OP.f1 o) (OP.f2 o) (OP.f3 o)), kc [] (@Go.Ops.id_c (OP.t1 o) (OP.t2 o) (OP.t3 o)), kc [] (@Go.Ops.text_c (OP.ky o)), kc [] (@Go.Ops.text_c (OP.vl o)), kc [] (@Go.Ops.num_c (OP.n o)), kc [] (@Go.Ops.num_c (1)), kc [] (@Go.Ops.list_c (true) ([[int 1, int (OP.dv o), str ByteArray.empty, AV.sl 4 false []], [int 1, int (OP.sq o), str ByteArray.empty, AV.sl 4 false []], [int 1, int (OP.tm o), str ByteArray.empty, AV.sl 4 false []], [int (CV.k (ctxV o)), int (CV.n (ctxV o)), str (CV.s (ctxV o)), AV.sl 4 false (encL (CV.l (ctxV o)))], [int 3, int 0, str ByteArray.empty, AV.sl 4 false [[int 1, int (OP.pk o), str ByteArray.empty, AV.sl 4 false []], [int 2, int 0, str (OP.pn o), AV.sl 4 false []]]], [int 1, int (OP.kd o), str ByteArray.empty, AV.sl 4 false []], [int 3, int 0, str ByteArray.empty, AV.sl 4 false [[int 1, int (OP.f1 o), str ByteArray.empty, AV.sl 4 false []], [int 1, int (OP.f2 o), str ByteArray.empty, AV.sl 4 false []], [int 1, int (OP.f3 o), str ByteArray.empty, AV.sl 4 false []]]], [int 3, int 0, str ByteArray.empty, AV.sl 4 false [[int 1, int (OP.t1 o), str ByteArray.empty, AV.sl 4 false []], [int 1, int (OP.t2 o), str ByteArray.empty, AV.sl 4 false []], [int 1, int (OP.t3 o), str ByteArray.empty, AV.sl 4 false []]]], [int 2, int 0, str (OP.ky o), AV.sl 4 false []], [int 2, int 0, str (OP.vl o), AV.sl 4 false []], [int 1, int (OP.n o), str ByteArray.empty, AV.sl 4 false []], [int 1, int 1, str ByteArray.empty, AV.sl 4 false []]])), kc [] (@he )] (by kernel_rfl)


theorem enc_f0 (o : OP) (l : List UInt8) (e : Int) (hon : o.on = false) (hc : CallC P G 12 [op o] [] (.ret (int 0)) []) (hL : RunL P G none 0 (loopAt P 18 0) (encSt0 o 0) (.exit 0) { env := slots 85 [(1, .ptr 0 0), (5, .ptr 1 0)], H := [.box (opc o), .box (enc (ctxV o))] }) (he : CallC P G 30 [val (opW o 0)] [] (.ret (.tup [byt l, int e])) []) (h : True) : CallC P G 18 [op o] [] (AOut.ret (AV.tup [byt l, int e])) [] := by
  have _ := h
  exact callC_of [kc [] (@hc ), kf (Eq.refl false), kc [] (@Go.Ops.list0_c ), kv 17 (show Am.Sub (int (↑(List.length (encs (OP.cx o))) : Int)) (int (↑(List.length (OP.cx o)) : Int)) from (Sub.of_eq (by simp only [Go.Vec.encs_length]))), kl [0, 2, 3, 4, 6, 7, 8, 9, 10, 11, 12, 13, 14, 15, 19, 20, 21, 22, 23, 24, 25, 26, 27, 28, 29, 30, 31, 32, 33, 34, 35, 36, 37, 38, 39, 40, 41, 42, 43, 44, 45, 46, 47, 48, 49, 50, 51, 52, 53, 54, 55, 56, 57, 58, 59, 60, 61, 62, 63, 64, 65, 66, 67, 68, 69, 70, 71, 72, 73, 74, 75, 76, 77, 78, 79, 80, 81, 82, 83, 84] 2 (@hL ), kf hon, kc [] (@Go.Ops.num_c (OP.dv o)), kc [] (@Go.Ops.num_c (OP.sq o)), kc [] (@Go.Ops.num_c (OP.tm o)), kc [] (@Go.Ops.num_c (OP.pk o)), kc [] (@Go.Ops.text_c (OP.pn o)), kc [] (@Go.Ops.list_c (true) ([[int 1, int (OP.pk o), str ByteArray.empty, AV.sl 4 false []], [int 2, int 0, str (OP.pn o), AV.sl 4 false []]])), kc [] (@Go.Ops.num_c (OP.kd o)), kc [] (@Go.Ops.id_c (OP.f1 o) (OP.f2 o) (OP.f3 o)), kc [] (@Go.Ops.id_c (OP.t1 o) (OP.t2 o) (OP.t3 o)), kc [] (@Go.Ops.text_c (OP.ky o)), kc [] (@Go.Ops.text_c (OP.vl o)), kc [] (@Go.Ops.num_c (OP.n o)), kc [] (@Go.Ops.num_c (0)), kc [] (@Go.Ops.list_c (true) ([[int 1, int (OP.dv o), str ByteArray.empty, AV.sl 4 false []], [int 1, int (OP.sq o), str ByteArray.empty, AV.sl 4 false []], [int 1, int (OP.tm o), str ByteArray.empty, AV.sl 4 false []], [int (CV.k (ctxV o)), int (CV.n (ctxV o)), str (CV.s (ctxV o)), AV.sl 4 false (encL (CV.l (ctxV o)))], [int 3, int 0, str ByteArray.empty, AV.sl 4 false [[int 1, int (OP.pk o), str ByteArray.empty, AV.sl 4 false []], [int 2, int 0, str (OP.pn o), AV.sl 4 false []]]], [int 1, int (OP.kd o), str ByteArray.empty, AV.sl 4 false []], [int 3, int 0, str ByteArray.empty, AV.sl 4 false [[int 1, int (OP.f1 o), str ByteArray.empty, AV.sl 4 false []], [int 1, int (OP.f2 o), str ByteArray.empty, AV.sl 4 false []], [int 1, int (OP.f3 o), str ByteArray.empty, AV.sl 4 false []]]], [int 3, int 0, str ByteArray.empty, AV.sl 4 false [[int 1, int (OP.t1 o), str ByteArray.empty, AV.sl 4 false []], [int 1, int (OP.t2 o), str ByteArray.empty, AV.sl 4 false []], [int 1, int (OP.t3 o), str ByteArray.empty, AV.sl 4 false []]]], [int 2, int 0, str (OP.ky o), AV.sl 4 false []], [int 2, int 0, str (OP.vl o), AV.sl 4 false []], [int 1, int (OP.n o), str ByteArray.empty, AV.sl 4 false []], [int 1, int 0, str ByteArray.empty, AV.sl 4 false []]])), kc [] (@he )] (by kernel_rfl)


theorem enc_f1 (o : OP) (l : List UInt8) (e : Int) (hon : o.on = false) (hc : CallC P G 12 [op o] [] (.ret (int 0)) []) (hL : RunL P G none 0 (loopAt P 18 0) (encSt0 o 0) (.exit 0) { env := slots 85 [(1, .ptr 0 0), (5, .ptr 1 0)], H := [.box (opc o), .box (enc (ctxV o)), .gone, .gone] }) (he : CallC P G 30 [val (opW o 0)] [] (.ret (.tup [byt l, int e])) []) (h : True) : CallC P G 18 [op o] [] (AOut.ret (AV.tup [byt l, int e])) [] := by
  have _ := h
  exact callC_of [kc [] (@hc ), kf (Eq.refl false), kc [] (@Go.Ops.list0_c ), kv 17 (show Am.Sub (int (↑(List.length (encs (OP.cx o))) : Int)) (int (↑(List.length (OP.cx o)) : Int)) from (Sub.of_eq (by simp only [Go.Vec.encs_length]))), kl [0, 2, 3, 4, 6, 7, 8, 9, 10, 11, 12, 13, 14, 15, 19, 20, 21, 22, 23, 24, 25, 26, 27, 28, 29, 30, 31, 32, 33, 34, 35, 36, 37, 38, 39, 40, 41, 42, 43, 44, 45, 46, 47, 48, 49, 50, 51, 52, 53, 54, 55, 56, 57, 58, 59, 60, 61, 62, 63, 64, 65, 66, 67, 68, 69, 70, 71, 72, 73, 74, 75, 76, 77, 78, 79, 80, 81, 82, 83, 84] 2 (@hL ), kf hon, kc [] (@Go.Ops.num_c (OP.dv o)), kc [] (@Go.Ops.num_c (OP.sq o)), kc [] (@Go.Ops.num_c (OP.tm o)), kc [] (@Go.Ops.num_c (OP.pk o)), kc [] (@Go.Ops.text_c (OP.pn o)), kc [] (@Go.Ops.list_c (true) ([[int 1, int (OP.pk o), str ByteArray.empty, AV.sl 4 false []], [int 2, int 0, str (OP.pn o), AV.sl 4 false []]])), kc [] (@Go.Ops.num_c (OP.kd o)), kc [] (@Go.Ops.id_c (OP.f1 o) (OP.f2 o) (OP.f3 o)), kc [] (@Go.Ops.id_c (OP.t1 o) (OP.t2 o) (OP.t3 o)), kc [] (@Go.Ops.text_c (OP.ky o)), kc [] (@Go.Ops.text_c (OP.vl o)), kc [] (@Go.Ops.num_c (OP.n o)), kc [] (@Go.Ops.num_c (0)), kc [] (@Go.Ops.list_c (true) ([[int 1, int (OP.dv o), str ByteArray.empty, AV.sl 4 false []], [int 1, int (OP.sq o), str ByteArray.empty, AV.sl 4 false []], [int 1, int (OP.tm o), str ByteArray.empty, AV.sl 4 false []], [int (CV.k (ctxV o)), int (CV.n (ctxV o)), str (CV.s (ctxV o)), AV.sl 4 false (encL (CV.l (ctxV o)))], [int 3, int 0, str ByteArray.empty, AV.sl 4 false [[int 1, int (OP.pk o), str ByteArray.empty, AV.sl 4 false []], [int 2, int 0, str (OP.pn o), AV.sl 4 false []]]], [int 1, int (OP.kd o), str ByteArray.empty, AV.sl 4 false []], [int 3, int 0, str ByteArray.empty, AV.sl 4 false [[int 1, int (OP.f1 o), str ByteArray.empty, AV.sl 4 false []], [int 1, int (OP.f2 o), str ByteArray.empty, AV.sl 4 false []], [int 1, int (OP.f3 o), str ByteArray.empty, AV.sl 4 false []]]], [int 3, int 0, str ByteArray.empty, AV.sl 4 false [[int 1, int (OP.t1 o), str ByteArray.empty, AV.sl 4 false []], [int 1, int (OP.t2 o), str ByteArray.empty, AV.sl 4 false []], [int 1, int (OP.t3 o), str ByteArray.empty, AV.sl 4 false []]]], [int 2, int 0, str (OP.ky o), AV.sl 4 false []], [int 2, int 0, str (OP.vl o), AV.sl 4 false []], [int 1, int (OP.n o), str ByteArray.empty, AV.sl 4 false []], [int 1, int 0, str ByteArray.empty, AV.sl 4 false []]])), kc [] (@he )] (by kernel_rfl)


theorem enc_x (o : OP) (e : Int) (he : ¬ e = 0) (hc : CallC P G 12 [op o] [] (.ret (int e)) []) (h : True) : CallC P G 18 [op o] [] (AOut.ret (AV.tup [byt [], int e])) [] := by
  have _ := h
  exact CallC.out ((show CallC P G 18 [op o] [] (AOut.ret (AV.tup [nilS, int e])) [] from callC_of [kc [] (@hc ), kt (show (e != 0) = true from (congrArg Bool.not (decide_eq_false (by omega))))] (by kernel_rfl))) (Sub.tups ⟨Sub.nil _, Sub.refl _, trivial⟩)


theorem enc_ok (o : OP) (l : List UInt8) (e : Int) (hl : o.cx.length ≤ 1000000000) (hc : CallC P G 12 [op o] [] (.ret (int 0)) []) (he : CallC P G 30 [val (opV o)] [] (.ret (.tup [byt l, int e])) []) : CallC P G 18 [op o] [] (.ret (.tup [byt l, int e])) [] := by
  unfold opV at he
  cases hon : o.on with
  | true =>
    rw [hon, if_pos rfl] at he
    rcases el_c o hl with ⟨_, h⟩ | h
    · exact enc_t0 o l e hon hc h he trivial
    · exact enc_t1 o l e hon hc h he trivial
  | false =>
    rw [hon, if_neg (by decide)] at he
    rcases el_c o hl with ⟨_, h⟩ | h
    · exact enc_f0 o l e hon hc h he trivial
    · exact enc_f1 o l e hon hc h he trivial

end Go.Ops

/- OPS, 7: the program's reader of values. -/
namespace Go.Ops
set_option maxRecDepth 100000
set_option linter.unusedSimpArgs false
set_option linter.unusedVariables false
open Go Go.Am Go.Proofs Go.Seat Go.Vec Go.Cdc

def hd (l : List CV) : CV := l.headD default
def at_ (l : List CV) (i : Nat) : CV := (l.drop i).headD default
def rb (l : List CV) : List AObj := [.box [.sl 4 false (encL l)]]

theorem next_1 (v : CV) (l : List CV) (h0 : l[0]? = some v) (hp : 0 < l.length) (hl : l.length ≤ 9223372036854775807) (h : (((0 : Int) ≤ (1 : Int) ∧ (1 : Int) ≤ (↑(List.length (encL l)) : Int) ∧ (↑(List.length (encL l)) : Int) ≤ (↑(List.length (encL l)) : Int)) ∧ True)) : CallC P G 73 [AV.ptr 0 0] (rb l) (AOut.ret (val v)) (rb (List.drop 1 l)) := by
  obtain ⟨o2, h⟩ := h
  have _ := h
  exact callC_of [kv 7 (show Am.Sub (int (↑(List.length (encL l)) : Int)) (int (↑(List.length l) : Int)) from (Sub.of_eq (by simp only [Go.Cdc.encL_length]))), kt (show decide ((↑(List.length l) : Int) > (0 : Int)) = true from (decide_eq_true (by omega))), ko (Orc.elem (Cdc.enc v)), kp (show (0 : Int) ≤ (0 : Int) ∧ (encL l)[Int.toNat 0]? = some (Cdc.enc v) from (by rw [Go.Cdc.encL_map]; exact el_nat h0)), kv 20 (show Am.Sub (AV.sl 4 false (List.drop 1 (List.take (Int.toNat (↑(List.length (encL l)) : Int)) (encL l)))) (AV.sl 4 false (encL (List.drop 1 l))) from (Sub.of_eq (by simp only [Go.Cdc.encL_length, Go.Cdc.encL_drop, Go.Cdc.encL_take, List.take_length, Int.toNat_natCast]))), kp o2] (by kernel_rfl)


theorem next_0  (h : True) : CallC P G 73 [AV.ptr 0 0] (rb []) (AOut.ret (val default)) (rb []) := by
  have _ := h
  exact CallC.out ((show CallC P G 73 [AV.ptr 0 0] (rb []) (AOut.ret (AV.agg [int 0, int 0, str (ByteArray.mk #[]), nilS])) [AObj.box [AV.sl 4 false []]] from callC_of [kf (Eq.refl false)] (by kernel_rfl))) (Sub.aggs ⟨Sub.refl _, Sub.refl _, Sub.refl _, Sub.nil _, trivial⟩)


theorem next_c (l : List CV) (hl : l.length ≤ 9223372036854775807) : CallC P G 73 [.ptr 0 0] (rb l) (.ret (val (hd l))) (rb (l.drop 1)) := by
  cases l with
  | nil => exact next_0 trivial
  | cons v l => exact next_1 v (v :: l) rfl (by simp) hl ⟨⟨by decide, by rw [encL_length]; simp only [List.length_cons]; omega, Int.le_refl _⟩, trivial⟩

theorem num0_w (l : List CV) (hl : l.length ≤ 9223372036854775807) (h : True) : CallC P G 49 [AV.ptr 0 0] (rb l) (AOut.ret (int (CV.n (hd l)))) (rb (List.drop 1 l)) := by
  have _ := h
  exact callC_of [kc [0] (@Go.Ops.next_c (l) (by omega))] (by kernel_rfl)


theorem txt0_w (l : List CV) (hl : l.length ≤ 9223372036854775807) (h : True) : CallC P G 50 [AV.ptr 0 0] (rb l) (AOut.ret (str (CV.s (hd l)))) (rb (List.drop 1 l)) := by
  have _ := h
  exact callC_of [kc [0] (@Go.Ops.next_c (l) (by omega))] (by kernel_rfl)


theorem lst0_w (l : List CV) (hl : l.length ≤ 9223372036854775807) (h : True) : CallC P G 51 [AV.ptr 0 0] (rb l) (AOut.ret (AV.ptr 1 0)) [AObj.box [AV.sl 4 false (encL (List.drop 1 l))], AObj.box [AV.sl 4 false (encL (CV.l (hd l)))]] := by
  have _ := h
  exact callC_of [kc [0] (@Go.Ops.next_c (l) (by omega))] (by kernel_rfl)


theorem num0_c (l : List CV) (hl : l.length ≤ 9223372036854775807) : CallC P G 49 [.ptr 0 0] (rb l) (.ret (int (at_ l 0).n)) (rb (l.drop 1)) := num0_w l hl trivial
theorem txt0_c (l : List CV) (hl : l.length ≤ 9223372036854775807) : CallC P G 50 [.ptr 0 0] (rb l) (.ret (str (at_ l 0).s)) (rb (l.drop 1)) := txt0_w l hl trivial
theorem lst0_c (l : List CV) (hl : l.length ≤ 9223372036854775807) : CallC P G 51 [.ptr 0 0] (rb l) (.ret (.ptr 1 0)) [.box [.sl 4 false (encL (l.drop 1))], .box [.sl 4 false (encL (at_ l 0).l)]] := lst0_w l hl trivial
theorem dropl {l : List CV} {i : Nat} (hl : l.length ≤ 9223372036854775807) : (l.drop i).length ≤ 9223372036854775807 := by simp; omega
theorem num_i (l : List CV) (i : Nat) (hl : l.length ≤ 9223372036854775807) : CallC P G 49 [.ptr 0 0] (rb (l.drop i)) (.ret (int (at_ l i).n)) (rb (l.drop (i + 1))) := by
  have := num0_c (l.drop i) (dropl hl)
  rw [List.drop_drop] at this
  exact this
theorem txt_i (l : List CV) (i : Nat) (hl : l.length ≤ 9223372036854775807) : CallC P G 50 [.ptr 0 0] (rb (l.drop i)) (.ret (str (at_ l i).s)) (rb (l.drop (i + 1))) := by
  have := txt0_c (l.drop i) (dropl hl)
  rw [List.drop_drop] at this
  exact this
theorem lst_i (l : List CV) (i : Nat) (hl : l.length ≤ 9223372036854775807) : CallC P G 51 [.ptr 0 0] (rb (l.drop i)) (.ret (.ptr 1 0)) [.box [.sl 4 false (encL (l.drop (i + 1)))], .box [.sl 4 false (encL (at_ l i).l)]] := by
  have := lst0_c (l.drop i) (dropl hl)
  rw [List.drop_drop] at this
  exact this

theorem id_0 (l x : List CV) (hl : l.length ≤ 9223372036854775807) (hx : x.length ≤ 9223372036854775807) (hL : CallC P G 51 [.ptr 0 0] (rb l) (.ret (.ptr 1 0)) [.box [.sl 4 false (encL (l.drop 1))], .box [.sl 4 false (encL x)]]) (h : True) : CallC P G 52 [AV.ptr 0 0] (rb l) (AOut.ret (ida (CV.n (at_ x 0)) (CV.n (at_ x 1)) (CV.n (at_ x 2)))) (rb (List.drop 1 l)) := by
  have _ := h
  exact callC_of [kc [0] (@hL ), kc [2] (@Go.Ops.num0_c (x) (by omega)), kc [2] (@Go.Ops.num_i (x) (1) (by omega)), kc [2] (@Go.Ops.num_i (x) (2) (by omega))] (by kernel_rfl)


theorem id_i (l : List CV) (i : Nat) (hl : l.length ≤ 9223372036854775807) (hx : (at_ l i).l.length ≤ 9223372036854775807) : CallC P G 52 [.ptr 0 0] (rb (l.drop i)) (.ret (ida (at_ (at_ l i).l 0).n (at_ (at_ l i).l 1).n (at_ (at_ l i).l 2).n)) (rb (l.drop (i + 1))) := by
  have h := lst0_c (l.drop i) (dropl hl)
  have e : at_ (l.drop i) 0 = at_ l i := rfl
  rw [e] at h
  have := id_0 (l.drop i) _ (dropl hl) hx h trivial
  rw [List.drop_drop] at this
  exact this

/-! Bytes that are the same -/
theorem beq_w (a b : List UInt8) (h : (decide (ByteArray.mk (List.toArray a) = ByteArray.mk (List.toArray b))) = (decide (a = b))) : CallC P G 53 [byt a, byt b] [] (AOut.ret (Am.bool (decide (a = b)))) [] := by
  have e1 := h
  exact callC_out (Sub.bool_eq e1) [ko (Orc.bytes (ByteArray.mk (List.toArray a))), ko (Orc.bytes (ByteArray.mk (List.toArray b))), kp (show bys a = List.map (fun (c : UInt8) => [AV.lit (Value.int IntKind.u8 (↑(UInt8.toNat c) : Int))]) (Array.toList (Array.mk a)) from (rfl)), kp (show bys b = List.map (fun (c : UInt8) => [AV.lit (Value.int IntKind.u8 (↑(UInt8.toNat c) : Int))]) (Array.toList (Array.mk b)) from (rfl)), kv 9 (show Am.Sub (Am.bool (ByteArray.toList (ByteArray.mk (List.toArray a)) == ByteArray.toList (ByteArray.mk (List.toArray b)))) (Am.bool (decide (ByteArray.mk (List.toArray a) = ByteArray.mk (List.toArray b)))) from (Sub.of_eq (by simp only [Go.Cdc.str_eq])))] (by kernel_rfl)


theorem bEq_c (a b : List UInt8) : CallC P G 53 [byt a, byt b] [] (.ret (bool (decide (a = b)))) [] := beq_w a b (by
  have : (ByteArray.mk a.toArray = ByteArray.mk b.toArray) ↔ a = b := by simp
  simp [this])

end Go.Ops

/- OPS, 10: Compare. -/
namespace Go.Ops
set_option maxRecDepth 100000
set_option linter.unusedSimpArgs false
set_option linter.unusedVariables false
open Go Go.Am Go.Proofs Go.Seat Go.Vec Go.Cdc

theorem cmpX : ExtCmp P 67 := ⟨_, rfl, by kernel_rfl, by kernel_rfl, by kernel_rfl, by kernel_rfl⟩

theorem bcmp_w (a b : List UInt8) (v : Int) (h : (Lib.compareBytes (Array.toList (List.toArray a)) (Array.toList (List.toArray b)) : Int) = (v)) : CallC P G 41 [byt a, byt b] [] (AOut.ret (int v)) [] := by
  have e1 := h
  exact callC_out (Sub.int_eq e1) [ko (Orc.cmpb (ByteArray.mk (List.toArray a)) (ByteArray.mk (List.toArray b))), kp (show ExtCmp P 67 from (Go.Ops.cmpX)), kp (show bys a = byteA (ByteArray.mk (List.toArray a)) from (rfl)), kp (show bys b = byteA (ByteArray.mk (List.toArray b)) from (rfl))] (by kernel_rfl)

theorem isnan_w (x : Int) (h : (x != x) = (false)) : CallC P G 66 [int x] [] (AOut.ret (Am.bool false)) [] := by
  have e1 := h
  exact callC_out (Sub.bool_eq e1) [] (by kernel_rfl)

theorem ccmp_w (x y v : Int) (hx : CallC P G 66 [int x] [] (.ret (bool false)) []) (hy : CallC P G 66 [int y] [] (.ret (bool false)) []) (h : (((x < y) → (-1 : Int) = (v)) ∧ ((¬x < y) → (((x > y) → (1 : Int) = (v)) ∧ ((¬x > y) → (0 : Int) = (v)))))) : CallC P G 40 [int x, int y] [] (AOut.ret (int v)) [] := by
  have hz0 := (@hx )
  have hz1 := (@hy )
  by_cases c1 : (x < y)
  · have h := h.1 c1
    have e1 := h
    exact callC_out (Sub.int_eq e1) [kc [] hz0, kc [] hz1, kf (Eq.refl false), kf (Eq.refl false), kt (decide_eq_true c1)] (by kernel_rfl)
  · have h := h.2 c1
    by_cases c2 : (x > y)
    · have h := h.1 c2
      have e1 := h
      exact callC_out (Sub.int_eq e1) [kc [] hz0, kc [] hz1, kf (Eq.refl false), kf (Eq.refl false), kf (decide_eq_false c1), kt (decide_eq_true c2)] (by kernel_rfl)
    · have h := h.2 c2
      have e1 := h
      exact callC_out (Sub.int_eq e1) [kc [] hz0, kc [] hz1, kf (Eq.refl false), kf (Eq.refl false), kf (decide_eq_false c1), kf (decide_eq_false c2)] (by kernel_rfl)

theorem bcmp_c (a b : List UInt8) : CallC P G 41 [byt a, byt b] [] (.ret (int (Lib.compareBytes a b))) [] := bcmp_w a b _ rfl
def cmpV (x y : Int) : Int := if x < y then -1 else if x > y then 1 else 0
theorem ccmp_c (x y : Int) : CallC P G 40 [int x, int y] [] (.ret (int (cmpV x y))) [] := ccmp_w x y _ (isnan_w x (by simp)) (isnan_w y (by simp)) (by
  unfold cmpV
  grind)

/-! The first that is not 0 -/
def orV : List Int → Int
  | [] => 0
  | x :: t => if x = 0 then orV t else x
def orSt (l : List Int) (k : Nat) : St := { env := slots 18 [(2, int 0), (3, int 0), (6, .sl 1 true (ints l)), (7, int l.length), (8, int k)], H := [] }

theorem or_w (l : List Int) (k : Nat) (hl : l.length ≤ 1000000) (ex : AEx) (r : Int) (h : ((((↑k : Int) < (↑(List.length l) : Int)) → (∃ x2 : Int, (l[k]? = some x2) ∧ (((x2 = (0 : Int)) → RunL P G none 0 (loopAt P 39 0) (St.mk (slots 18 [(2, int 0), (3, int 0), (6, AV.sl 1 true (ints l)), (7, int (↑(List.length l) : Int)), (8, int (↑(k + 1) : Int))]) [] []) ex (St.mk (slots 18 [(2, int r), (3, int 0)]) [] [])) ∧ ((¬x2 = (0 : Int)) → (AEx.ret = ex) ∧ ((x2 : Int) = (r)))))) ∧ ((¬(↑k : Int) < (↑(List.length l) : Int)) → (AEx.exit 0 = ex) ∧ ((0 : Int) = (r))))) : RunL P G none 0 (loopAt P 39 0) (orSt l k) ex (St.mk (slots 18 [(2, int r), (3, int 0)]) [] []) := by
  by_cases c1 : ((↑k : Int) < (↑(List.length l) : Int))
  · have h := h.1 c1
    obtain ⟨x2, o3, h⟩ := h
    have hz0 : (0 : Int) ≤ (↑k : Int) ∧ (ints l)[Int.toNat (↑k : Int)]? = some (enc1 x2) := (el_nat o3)
    by_cases c4 : (x2 = (0 : Int))
    · have h := h.1 c4
      exact loop_next [kt (decide_eq_true c1), ko (Orc.elem (enc1 x2)), kp hz0, kf (show (x2 != 0) = false from (congrArg Bool.not (beq_iff_eq.2 c4))), kv 16 (show Am.Sub (int (IntKind.wrap IntKind.i64 ((↑k : Int) + 1))) (int (↑(k + 1) : Int)) from (Sub.of_wrap (by omega) (by omega) (by omega)))] (others 18 [2, 3, 6, 7, 8]) 0 h (by kernel_rfl)
    · have h := h.2 c4
      obtain ⟨eX, e1⟩ := h
      exact RunL.to ((show RunL P G none 0 (loopAt P 39 0) (orSt l k) AEx.ret (St.mk (slots 18 [(2, int x2), (3, int 0)]) [] []) from loop_exit [kt (decide_eq_true c1), ko (Orc.elem (enc1 x2)), kp hz0, kt (show (x2 != 0) = true from (congrArg Bool.not (beq_eq_false_iff_ne.2 c4)))] (others 18 [2, 3]) 0 (by kernel_rfl))) eX (SubS.slots ⟨rfl, (Sub.int_eq e1), rfl, Sub.refl _, trivial⟩)
  · have h := h.2 c1
    obtain ⟨eX, e1⟩ := h
    exact RunL.to ((show RunL P G none 0 (loopAt P 39 0) (orSt l k) (AEx.exit 0) (St.mk (slots 18 [(2, int 0), (3, int 0)]) [] []) from loop_exit [kf (decide_eq_false c1)] (others 18 [2, 3]) 0 (by kernel_rfl))) eX (SubS.slots ⟨rfl, (Sub.int_eq e1), rfl, Sub.refl _, trivial⟩)

theorem or_loop (l : List Int) (hl : l.length ≤ 1000000) : ∀ (m k : Nat), l.length - k = m → k ≤ l.length → RunL P G none 0 (loopAt P 39 0) (orSt l k) (if orV (l.drop k) = 0 then .exit 0 else .ret) { env := slots 18 [(2, int (orV (l.drop k))), (3, int 0)], H := [] } := by
  intro m
  induction m with
  | zero =>
    intro k hm hk
    have e : l.drop k = [] := List.drop_of_length_le (by omega)
    rw [e]
    exact or_w l k hl _ _ ⟨fun h => absurd h (by omega), fun _ => ⟨rfl, rfl⟩⟩
  | succ m ih =>
    intro k hm hk
    have hlt : k < l.length := by omega
    have e := List.drop_eq_getElem_cons hlt
    refine or_w l k hl _ _ ⟨fun _ => ⟨l[k], List.getElem?_eq_getElem hlt, ⟨fun h0 => ?_, fun h0 => ?_⟩⟩, fun h => absurd hlt (by omega)⟩
    · have : orV (l.drop k) = orV (l.drop (k + 1)) := by rw [e, orV, if_pos h0]
      rw [this]
      exact ih (k + 1) (by omega) (by omega)
    · have : orV (l.drop k) = l[k] := by rw [e, orV, if_neg h0]
      rw [this, if_neg h0]
      exact ⟨rfl, rfl⟩

theorem or_f (l : List Int) (r : Int) (hL : RunL P G none 0 (loopAt P 39 0) (orSt l 0) (if r = 0 then .exit 0 else .ret) { env := slots 18 [(2, int r), (3, int 0)], H := [] }) (h : (((r = (0 : Int)) → (0 : Int) = (r)) ∧ ((¬r = (0 : Int)) → True))) : CallC P G 39 [AV.sl 1 true (ints l)] [] (AOut.ret (int r)) [] := by
  have hz0 : Am.Sub (int (↑(List.length (ints l)) : Int)) (int (↑(List.length l) : Int)) := (Sub.of_eq (by simp only [Go.Vec.ints_length]))
  by_cases c1 : (r = (0 : Int))
  · have h := h.1 c1
    have e1 := h
    exact callC_out (Sub.int_eq e1) [kv 7 hz0, kl [0, 1, 4, 5, 9, 10, 11, 12, 13, 14, 15, 16, 17] 0 (show RunL P G none 0 (loopAt P 39 0) (St.mk (slots 18 [(2, int 0), (3, int 0), (6, AV.sl 1 true (ints l)), (7, int (↑(List.length l) : Int)), (8, int 0)]) [] []) (AEx.exit 0) (St.mk (slots 18 [(2, int r), (3, int 0)]) [] []) from (by have h0 := (@hL ); simp only [if_pos c1] at h0; exact h0))] (by kernel_rfl)
  · have h := h.2 c1
    have _ := h
    exact callC_of [kv 7 hz0, kl [0, 1, 4, 5, 9, 10, 11, 12, 13, 14, 15, 16, 17] 0 (show RunL P G none 0 (loopAt P 39 0) (St.mk (slots 18 [(2, int 0), (3, int 0), (6, AV.sl 1 true (ints l)), (7, int (↑(List.length l) : Int)), (8, int 0)]) [] []) AEx.ret (St.mk (slots 18 [(2, int r), (3, int 0)]) [] []) from (by have h0 := (@hL ); simp only [if_neg c1] at h0; exact h0))] (by kernel_rfl)

theorem or3_c (a b c : Int) : CallC P G 39 [.sl 1 true [[int a], [int b], [int c]]] [] (.ret (int (orV [a, b, c]))) [] :=
  or_f [a, b, c] _ (by have := or_loop [a, b, c] (by simp) 3 0 rfl (by simp); exact this) ⟨fun h => h.symm, fun _ => trivial⟩

/-- What Compare answers, from the encodings. -/
def cmpOV (a b : OP) (x y : List UInt8) : Int :=
  if orV [cmpV a.tm b.tm, cmpV a.dv b.dv, cmpV a.sq b.sq] = 0 then Lib.compareBytes x y else orV [cmpV a.tm b.tm, cmpV a.dv b.dv, cmpV a.sq b.sq]

theorem cmp_w (a b : OP) (x y : List UInt8) (e1 e2 v : Int) (hx : CallC P G 18 [op a] [] (.ret (.tup [byt x, int e1])) []) (hy : CallC P G 18 [op b] [] (.ret (.tup [byt y, int e2])) []) (h : (((orV [cmpV (OP.tm a) (OP.tm b), cmpV (OP.dv a) (OP.dv b), cmpV (OP.sq a) (OP.sq b)] = (0 : Int)) → (Lib.compareBytes x y : Int) = (v)) ∧ ((¬orV [cmpV (OP.tm a) (OP.tm b), cmpV (OP.dv a) (OP.dv b), cmpV (OP.sq a) (OP.sq b)] = (0 : Int)) → (orV [cmpV (OP.tm a) (OP.tm b), cmpV (OP.dv a) (OP.dv b), cmpV (OP.sq a) (OP.sq b)] : Int) = (v)))) : CallC P G 14 [op a, op b] [] (AOut.ret (int v)) [] := by
  have hz0 := (@Go.Ops.ccmp_c (OP.tm a) (OP.tm b))
  have hz1 := (@Go.Ops.ccmp_c (OP.dv a) (OP.dv b))
  have hz2 := (@Go.Ops.ccmp_c (OP.sq a) (OP.sq b))
  have hz3 := (@Go.Ops.or3_c (cmpV (OP.tm a) (OP.tm b)) (cmpV (OP.dv a) (OP.dv b)) (cmpV (OP.sq a) (OP.sq b)))
  by_cases c1 : (orV [cmpV (OP.tm a) (OP.tm b), cmpV (OP.dv a) (OP.dv b), cmpV (OP.sq a) (OP.sq b)] = (0 : Int))
  · have h := h.1 c1
    have e1 := h
    exact callC_out (Sub.int_eq e1) [kc [] hz0, kc [] hz1, kc [] hz2, kc [] hz3, kt (beq_iff_eq.2 c1), kc [] (@hx ), kc [] (@hy ), kc [] (@Go.Ops.bcmp_c (x) (y))] (by kernel_rfl)
  · have h := h.2 c1
    have e1 := h
    exact callC_out (Sub.int_eq e1) [kc [] hz0, kc [] hz1, kc [] hz2, kc [] hz3, kf (beq_eq_false_iff_ne.2 c1)] (by kernel_rfl)

theorem cmp_c (a b : OP) (x y : List UInt8) (e1 e2 : Int) (hx : CallC P G 18 [op a] [] (.ret (.tup [byt x, int e1])) []) (hy : CallC P G 18 [op b] [] (.ret (.tup [byt y, int e2])) []) : CallC P G 14 [op a, op b] [] (.ret (int (cmpOV a b x y))) [] := cmp_w a b x y e1 e2 _ hx hy (by
  unfold cmpOV
  exact ⟨fun h => by rw [if_pos h], fun h => by rw [if_neg h]⟩)

/-! The reference's -/
def rcSt (a b : OP) (k : Nat) : St := { env := slots 72 [(2, .ptr 0 0), (3, .ptr 1 0), (4, int 0), (5, .sl 1 true [[int a.tm], [int a.dv], [int a.sq]]), (6, .sl 1 true [[int b.tm], [int b.dv], [int b.sq]]), (7, int k)], H := [.box (opc a), .box (opc b)] }

theorem rc0_w (a b : OP) (ex : AEx) (r : Int) (h : (((OP.tm a = OP.tm b) → RunL P G none 0 (loopAt P 15 0) (St.mk (slots 72 [(2, AV.ptr 0 0), (3, AV.ptr 1 0), (4, int 0), (5, AV.sl 1 true [[int (OP.tm a)], [int (OP.dv a)], [int (OP.sq a)]]), (6, AV.sl 1 true [[int (OP.tm b)], [int (OP.dv b)], [int (OP.sq b)]]), (7, int 1)]) [AObj.box [int (OP.dv a), int (OP.sq a), int (OP.tm a), AV.sl 2 false (encs (OP.cx a)), int (OP.pk a), str (OP.pn a), int (OP.kd a), int (OP.f1 a), int (OP.f2 a), int (OP.f3 a), int (OP.t1 a), int (OP.t2 a), int (OP.t3 a), str (OP.ky a), str (OP.vl a), int (OP.n a), Am.bool (OP.on a)], AObj.box [int (OP.dv b), int (OP.sq b), int (OP.tm b), AV.sl 2 false (encs (OP.cx b)), int (OP.pk b), str (OP.pn b), int (OP.kd b), int (OP.f1 b), int (OP.f2 b), int (OP.f3 b), int (OP.t1 b), int (OP.t2 b), int (OP.t3 b), str (OP.ky b), str (OP.vl b), int (OP.n b), Am.bool (OP.on b)]] []) ex (St.mk (slots 72 [(2, AV.ptr 0 0), (3, AV.ptr 1 0), (4, int r)]) [AObj.box (opc a), AObj.box (opc b)] [])) ∧ ((¬OP.tm a = OP.tm b) → (((OP.tm a < OP.tm b) → (AEx.ret = ex) ∧ ((-1 : Int) = (r))) ∧ ((¬OP.tm a < OP.tm b) → (AEx.ret = ex) ∧ ((1 : Int) = (r))))))) : RunL P G none 0 (loopAt P 15 0) (rcSt a b 0) ex (St.mk (slots 72 [(2, AV.ptr 0 0), (3, AV.ptr 1 0), (4, int r)]) [AObj.box (opc a), AObj.box (opc b)] []) := by
  have hz0 : (0 : Int) ≤ (0 : Int) ∧ [[int (OP.tm a)], [int (OP.dv a)], [int (OP.sq a)]][Int.toNat (↑0 : Int)]? = some [int (OP.tm a)] := (⟨by decide, rfl⟩)
  have hz1 : (0 : Int) ≤ (0 : Int) ∧ [[int (OP.tm b)], [int (OP.dv b)], [int (OP.sq b)]][Int.toNat (↑0 : Int)]? = some [int (OP.tm b)] := (⟨by decide, rfl⟩)
  by_cases c1 : (OP.tm a = OP.tm b)
  · have h := h.1 c1
    exact loop_next [kt (Eq.refl true), ko (Orc.elem [int (OP.tm a)]), ko (Orc.elem [int (OP.tm b)]), kp hz0, kp hz1, kf (show (OP.tm a != OP.tm b) = false from (congrArg Bool.not (beq_iff_eq.2 c1)))] (others 72 [2, 3, 4, 5, 6, 7]) 2 h (by kernel_rfl)
  · have h := h.2 c1
    have hz3 : (OP.tm a != OP.tm b) = true := (congrArg Bool.not (beq_eq_false_iff_ne.2 c1))
    by_cases c2 : (OP.tm a < OP.tm b)
    · have h := h.1 c2
      obtain ⟨eX, e1⟩ := h
      exact RunL.to ((show RunL P G none 0 (loopAt P 15 0) (rcSt a b 0) AEx.ret (St.mk (slots 72 [(2, AV.ptr 0 0), (3, AV.ptr 1 0), (4, int (-1))]) [AObj.box [int (OP.dv a), int (OP.sq a), int (OP.tm a), AV.sl 2 false (encs (OP.cx a)), int (OP.pk a), str (OP.pn a), int (OP.kd a), int (OP.f1 a), int (OP.f2 a), int (OP.f3 a), int (OP.t1 a), int (OP.t2 a), int (OP.t3 a), str (OP.ky a), str (OP.vl a), int (OP.n a), Am.bool (OP.on a)], AObj.box [int (OP.dv b), int (OP.sq b), int (OP.tm b), AV.sl 2 false (encs (OP.cx b)), int (OP.pk b), str (OP.pn b), int (OP.kd b), int (OP.f1 b), int (OP.f2 b), int (OP.f3 b), int (OP.t1 b), int (OP.t2 b), int (OP.t3 b), str (OP.ky b), str (OP.vl b), int (OP.n b), Am.bool (OP.on b)]] []) from loop_exit [kt (Eq.refl true), ko (Orc.elem [int (OP.tm a)]), ko (Orc.elem [int (OP.tm b)]), kp hz0, kp hz1, kt hz3, ko (Orc.elem [int (OP.tm a)]), ko (Orc.elem [int (OP.tm b)]), kp hz0, kp hz1, kt (decide_eq_true c2)] (others 72 [2, 3, 4]) 2 (by kernel_rfl))) eX (SubS.slots ⟨rfl, Sub.refl _, rfl, Sub.refl _, rfl, (Sub.int_eq e1), trivial⟩)
    · have h := h.2 c2
      obtain ⟨eX, e1⟩ := h
      exact RunL.to ((show RunL P G none 0 (loopAt P 15 0) (rcSt a b 0) AEx.ret (St.mk (slots 72 [(2, AV.ptr 0 0), (3, AV.ptr 1 0), (4, int 1)]) [AObj.box [int (OP.dv a), int (OP.sq a), int (OP.tm a), AV.sl 2 false (encs (OP.cx a)), int (OP.pk a), str (OP.pn a), int (OP.kd a), int (OP.f1 a), int (OP.f2 a), int (OP.f3 a), int (OP.t1 a), int (OP.t2 a), int (OP.t3 a), str (OP.ky a), str (OP.vl a), int (OP.n a), Am.bool (OP.on a)], AObj.box [int (OP.dv b), int (OP.sq b), int (OP.tm b), AV.sl 2 false (encs (OP.cx b)), int (OP.pk b), str (OP.pn b), int (OP.kd b), int (OP.f1 b), int (OP.f2 b), int (OP.f3 b), int (OP.t1 b), int (OP.t2 b), int (OP.t3 b), str (OP.ky b), str (OP.vl b), int (OP.n b), Am.bool (OP.on b)]] []) from loop_exit [kt (Eq.refl true), ko (Orc.elem [int (OP.tm a)]), ko (Orc.elem [int (OP.tm b)]), kp hz0, kp hz1, kt hz3, ko (Orc.elem [int (OP.tm a)]), ko (Orc.elem [int (OP.tm b)]), kp hz0, kp hz1, kf (decide_eq_false c2)] (others 72 [2, 3, 4]) 2 (by kernel_rfl))) eX (SubS.slots ⟨rfl, Sub.refl _, rfl, Sub.refl _, rfl, (Sub.int_eq e1), trivial⟩)

theorem rc1_w (a b : OP) (ex : AEx) (r : Int) (h : (((OP.dv a = OP.dv b) → RunL P G none 0 (loopAt P 15 0) (St.mk (slots 72 [(2, AV.ptr 0 0), (3, AV.ptr 1 0), (4, int 0), (5, AV.sl 1 true [[int (OP.tm a)], [int (OP.dv a)], [int (OP.sq a)]]), (6, AV.sl 1 true [[int (OP.tm b)], [int (OP.dv b)], [int (OP.sq b)]]), (7, int 2)]) [AObj.box [int (OP.dv a), int (OP.sq a), int (OP.tm a), AV.sl 2 false (encs (OP.cx a)), int (OP.pk a), str (OP.pn a), int (OP.kd a), int (OP.f1 a), int (OP.f2 a), int (OP.f3 a), int (OP.t1 a), int (OP.t2 a), int (OP.t3 a), str (OP.ky a), str (OP.vl a), int (OP.n a), Am.bool (OP.on a)], AObj.box [int (OP.dv b), int (OP.sq b), int (OP.tm b), AV.sl 2 false (encs (OP.cx b)), int (OP.pk b), str (OP.pn b), int (OP.kd b), int (OP.f1 b), int (OP.f2 b), int (OP.f3 b), int (OP.t1 b), int (OP.t2 b), int (OP.t3 b), str (OP.ky b), str (OP.vl b), int (OP.n b), Am.bool (OP.on b)]] []) ex (St.mk (slots 72 [(2, AV.ptr 0 0), (3, AV.ptr 1 0), (4, int r)]) [AObj.box (opc a), AObj.box (opc b)] [])) ∧ ((¬OP.dv a = OP.dv b) → (((OP.dv a < OP.dv b) → (AEx.ret = ex) ∧ ((-1 : Int) = (r))) ∧ ((¬OP.dv a < OP.dv b) → (AEx.ret = ex) ∧ ((1 : Int) = (r))))))) : RunL P G none 0 (loopAt P 15 0) (rcSt a b 1) ex (St.mk (slots 72 [(2, AV.ptr 0 0), (3, AV.ptr 1 0), (4, int r)]) [AObj.box (opc a), AObj.box (opc b)] []) := by
  have hz0 : (0 : Int) ≤ (1 : Int) ∧ [[int (OP.tm a)], [int (OP.dv a)], [int (OP.sq a)]][Int.toNat (↑1 : Int)]? = some [int (OP.dv a)] := (⟨by decide, rfl⟩)
  have hz1 : (0 : Int) ≤ (1 : Int) ∧ [[int (OP.tm b)], [int (OP.dv b)], [int (OP.sq b)]][Int.toNat (↑1 : Int)]? = some [int (OP.dv b)] := (⟨by decide, rfl⟩)
  by_cases c1 : (OP.dv a = OP.dv b)
  · have h := h.1 c1
    exact loop_next [kt (Eq.refl true), ko (Orc.elem [int (OP.dv a)]), ko (Orc.elem [int (OP.dv b)]), kp hz0, kp hz1, kf (show (OP.dv a != OP.dv b) = false from (congrArg Bool.not (beq_iff_eq.2 c1)))] (others 72 [2, 3, 4, 5, 6, 7]) 2 h (by kernel_rfl)
  · have h := h.2 c1
    have hz3 : (OP.dv a != OP.dv b) = true := (congrArg Bool.not (beq_eq_false_iff_ne.2 c1))
    by_cases c2 : (OP.dv a < OP.dv b)
    · have h := h.1 c2
      obtain ⟨eX, e1⟩ := h
      exact RunL.to ((show RunL P G none 0 (loopAt P 15 0) (rcSt a b 1) AEx.ret (St.mk (slots 72 [(2, AV.ptr 0 0), (3, AV.ptr 1 0), (4, int (-1))]) [AObj.box [int (OP.dv a), int (OP.sq a), int (OP.tm a), AV.sl 2 false (encs (OP.cx a)), int (OP.pk a), str (OP.pn a), int (OP.kd a), int (OP.f1 a), int (OP.f2 a), int (OP.f3 a), int (OP.t1 a), int (OP.t2 a), int (OP.t3 a), str (OP.ky a), str (OP.vl a), int (OP.n a), Am.bool (OP.on a)], AObj.box [int (OP.dv b), int (OP.sq b), int (OP.tm b), AV.sl 2 false (encs (OP.cx b)), int (OP.pk b), str (OP.pn b), int (OP.kd b), int (OP.f1 b), int (OP.f2 b), int (OP.f3 b), int (OP.t1 b), int (OP.t2 b), int (OP.t3 b), str (OP.ky b), str (OP.vl b), int (OP.n b), Am.bool (OP.on b)]] []) from loop_exit [kt (Eq.refl true), ko (Orc.elem [int (OP.dv a)]), ko (Orc.elem [int (OP.dv b)]), kp hz0, kp hz1, kt hz3, ko (Orc.elem [int (OP.dv a)]), ko (Orc.elem [int (OP.dv b)]), kp hz0, kp hz1, kt (decide_eq_true c2)] (others 72 [2, 3, 4]) 2 (by kernel_rfl))) eX (SubS.slots ⟨rfl, Sub.refl _, rfl, Sub.refl _, rfl, (Sub.int_eq e1), trivial⟩)
    · have h := h.2 c2
      obtain ⟨eX, e1⟩ := h
      exact RunL.to ((show RunL P G none 0 (loopAt P 15 0) (rcSt a b 1) AEx.ret (St.mk (slots 72 [(2, AV.ptr 0 0), (3, AV.ptr 1 0), (4, int 1)]) [AObj.box [int (OP.dv a), int (OP.sq a), int (OP.tm a), AV.sl 2 false (encs (OP.cx a)), int (OP.pk a), str (OP.pn a), int (OP.kd a), int (OP.f1 a), int (OP.f2 a), int (OP.f3 a), int (OP.t1 a), int (OP.t2 a), int (OP.t3 a), str (OP.ky a), str (OP.vl a), int (OP.n a), Am.bool (OP.on a)], AObj.box [int (OP.dv b), int (OP.sq b), int (OP.tm b), AV.sl 2 false (encs (OP.cx b)), int (OP.pk b), str (OP.pn b), int (OP.kd b), int (OP.f1 b), int (OP.f2 b), int (OP.f3 b), int (OP.t1 b), int (OP.t2 b), int (OP.t3 b), str (OP.ky b), str (OP.vl b), int (OP.n b), Am.bool (OP.on b)]] []) from loop_exit [kt (Eq.refl true), ko (Orc.elem [int (OP.dv a)]), ko (Orc.elem [int (OP.dv b)]), kp hz0, kp hz1, kt hz3, ko (Orc.elem [int (OP.dv a)]), ko (Orc.elem [int (OP.dv b)]), kp hz0, kp hz1, kf (decide_eq_false c2)] (others 72 [2, 3, 4]) 2 (by kernel_rfl))) eX (SubS.slots ⟨rfl, Sub.refl _, rfl, Sub.refl _, rfl, (Sub.int_eq e1), trivial⟩)

theorem rc2_w (a b : OP) (ex : AEx) (r : Int) (h : (((OP.sq a = OP.sq b) → RunL P G none 0 (loopAt P 15 0) (St.mk (slots 72 [(2, AV.ptr 0 0), (3, AV.ptr 1 0), (4, int 0), (5, AV.sl 1 true [[int (OP.tm a)], [int (OP.dv a)], [int (OP.sq a)]]), (6, AV.sl 1 true [[int (OP.tm b)], [int (OP.dv b)], [int (OP.sq b)]]), (7, int 3)]) [AObj.box [int (OP.dv a), int (OP.sq a), int (OP.tm a), AV.sl 2 false (encs (OP.cx a)), int (OP.pk a), str (OP.pn a), int (OP.kd a), int (OP.f1 a), int (OP.f2 a), int (OP.f3 a), int (OP.t1 a), int (OP.t2 a), int (OP.t3 a), str (OP.ky a), str (OP.vl a), int (OP.n a), Am.bool (OP.on a)], AObj.box [int (OP.dv b), int (OP.sq b), int (OP.tm b), AV.sl 2 false (encs (OP.cx b)), int (OP.pk b), str (OP.pn b), int (OP.kd b), int (OP.f1 b), int (OP.f2 b), int (OP.f3 b), int (OP.t1 b), int (OP.t2 b), int (OP.t3 b), str (OP.ky b), str (OP.vl b), int (OP.n b), Am.bool (OP.on b)]] []) ex (St.mk (slots 72 [(2, AV.ptr 0 0), (3, AV.ptr 1 0), (4, int r)]) [AObj.box (opc a), AObj.box (opc b)] [])) ∧ ((¬OP.sq a = OP.sq b) → (((OP.sq a < OP.sq b) → (AEx.ret = ex) ∧ ((-1 : Int) = (r))) ∧ ((¬OP.sq a < OP.sq b) → (AEx.ret = ex) ∧ ((1 : Int) = (r))))))) : RunL P G none 0 (loopAt P 15 0) (rcSt a b 2) ex (St.mk (slots 72 [(2, AV.ptr 0 0), (3, AV.ptr 1 0), (4, int r)]) [AObj.box (opc a), AObj.box (opc b)] []) := by
  have hz0 : (0 : Int) ≤ (2 : Int) ∧ [[int (OP.tm a)], [int (OP.dv a)], [int (OP.sq a)]][Int.toNat (↑2 : Int)]? = some [int (OP.sq a)] := (⟨by decide, rfl⟩)
  have hz1 : (0 : Int) ≤ (2 : Int) ∧ [[int (OP.tm b)], [int (OP.dv b)], [int (OP.sq b)]][Int.toNat (↑2 : Int)]? = some [int (OP.sq b)] := (⟨by decide, rfl⟩)
  by_cases c1 : (OP.sq a = OP.sq b)
  · have h := h.1 c1
    exact loop_next [kt (Eq.refl true), ko (Orc.elem [int (OP.sq a)]), ko (Orc.elem [int (OP.sq b)]), kp hz0, kp hz1, kf (show (OP.sq a != OP.sq b) = false from (congrArg Bool.not (beq_iff_eq.2 c1)))] (others 72 [2, 3, 4, 5, 6, 7]) 2 h (by kernel_rfl)
  · have h := h.2 c1
    have hz3 : (OP.sq a != OP.sq b) = true := (congrArg Bool.not (beq_eq_false_iff_ne.2 c1))
    by_cases c2 : (OP.sq a < OP.sq b)
    · have h := h.1 c2
      obtain ⟨eX, e1⟩ := h
      exact RunL.to ((show RunL P G none 0 (loopAt P 15 0) (rcSt a b 2) AEx.ret (St.mk (slots 72 [(2, AV.ptr 0 0), (3, AV.ptr 1 0), (4, int (-1))]) [AObj.box [int (OP.dv a), int (OP.sq a), int (OP.tm a), AV.sl 2 false (encs (OP.cx a)), int (OP.pk a), str (OP.pn a), int (OP.kd a), int (OP.f1 a), int (OP.f2 a), int (OP.f3 a), int (OP.t1 a), int (OP.t2 a), int (OP.t3 a), str (OP.ky a), str (OP.vl a), int (OP.n a), Am.bool (OP.on a)], AObj.box [int (OP.dv b), int (OP.sq b), int (OP.tm b), AV.sl 2 false (encs (OP.cx b)), int (OP.pk b), str (OP.pn b), int (OP.kd b), int (OP.f1 b), int (OP.f2 b), int (OP.f3 b), int (OP.t1 b), int (OP.t2 b), int (OP.t3 b), str (OP.ky b), str (OP.vl b), int (OP.n b), Am.bool (OP.on b)]] []) from loop_exit [kt (Eq.refl true), ko (Orc.elem [int (OP.sq a)]), ko (Orc.elem [int (OP.sq b)]), kp hz0, kp hz1, kt hz3, ko (Orc.elem [int (OP.sq a)]), ko (Orc.elem [int (OP.sq b)]), kp hz0, kp hz1, kt (decide_eq_true c2)] (others 72 [2, 3, 4]) 2 (by kernel_rfl))) eX (SubS.slots ⟨rfl, Sub.refl _, rfl, Sub.refl _, rfl, (Sub.int_eq e1), trivial⟩)
    · have h := h.2 c2
      obtain ⟨eX, e1⟩ := h
      exact RunL.to ((show RunL P G none 0 (loopAt P 15 0) (rcSt a b 2) AEx.ret (St.mk (slots 72 [(2, AV.ptr 0 0), (3, AV.ptr 1 0), (4, int 1)]) [AObj.box [int (OP.dv a), int (OP.sq a), int (OP.tm a), AV.sl 2 false (encs (OP.cx a)), int (OP.pk a), str (OP.pn a), int (OP.kd a), int (OP.f1 a), int (OP.f2 a), int (OP.f3 a), int (OP.t1 a), int (OP.t2 a), int (OP.t3 a), str (OP.ky a), str (OP.vl a), int (OP.n a), Am.bool (OP.on a)], AObj.box [int (OP.dv b), int (OP.sq b), int (OP.tm b), AV.sl 2 false (encs (OP.cx b)), int (OP.pk b), str (OP.pn b), int (OP.kd b), int (OP.f1 b), int (OP.f2 b), int (OP.f3 b), int (OP.t1 b), int (OP.t2 b), int (OP.t3 b), str (OP.ky b), str (OP.vl b), int (OP.n b), Am.bool (OP.on b)]] []) from loop_exit [kt (Eq.refl true), ko (Orc.elem [int (OP.sq a)]), ko (Orc.elem [int (OP.sq b)]), kp hz0, kp hz1, kt hz3, ko (Orc.elem [int (OP.sq a)]), ko (Orc.elem [int (OP.sq b)]), kp hz0, kp hz1, kf (decide_eq_false c2)] (others 72 [2, 3, 4]) 2 (by kernel_rfl))) eX (SubS.slots ⟨rfl, Sub.refl _, rfl, Sub.refl _, rfl, (Sub.int_eq e1), trivial⟩)

theorem rc3_w (a b : OP) (ex : AEx) (r : Int) (h : (AEx.exit 0 = ex) ∧ ((0 : Int) = (r))) : RunL P G none 0 (loopAt P 15 0) (rcSt a b 3) ex (St.mk (slots 72 [(2, AV.ptr 0 0), (3, AV.ptr 1 0), (4, int r)]) [AObj.box (opc a), AObj.box (opc b)] []) := by
  obtain ⟨eX, e1⟩ := h
  exact RunL.to ((show RunL P G none 0 (loopAt P 15 0) (rcSt a b 3) (AEx.exit 0) (St.mk (slots 72 [(2, AV.ptr 0 0), (3, AV.ptr 1 0), (4, int 0)]) [AObj.box [int (OP.dv a), int (OP.sq a), int (OP.tm a), AV.sl 2 false (encs (OP.cx a)), int (OP.pk a), str (OP.pn a), int (OP.kd a), int (OP.f1 a), int (OP.f2 a), int (OP.f3 a), int (OP.t1 a), int (OP.t2 a), int (OP.t3 a), str (OP.ky a), str (OP.vl a), int (OP.n a), Am.bool (OP.on a)], AObj.box [int (OP.dv b), int (OP.sq b), int (OP.tm b), AV.sl 2 false (encs (OP.cx b)), int (OP.pk b), str (OP.pn b), int (OP.kd b), int (OP.f1 b), int (OP.f2 b), int (OP.f3 b), int (OP.t1 b), int (OP.t2 b), int (OP.t3 b), str (OP.ky b), str (OP.vl b), int (OP.n b), Am.bool (OP.on b)]] []) from loop_exit [kf (Eq.refl false)] (others 72 [2, 3, 4]) 2 (by kernel_rfl))) eX (SubS.slots ⟨rfl, Sub.refl _, rfl, Sub.refl _, rfl, (Sub.int_eq e1), trivial⟩)

theorem rcmp_w (a b : OP) (x y : List UInt8) (e1 e2 r v : Int) (hx : CallC P G 19 [op a] [] (.ret (.tup [byt x, int e1])) []) (hy : CallC P G 19 [op b] [] (.ret (.tup [byt y, int e2])) []) (hL : RunL P G none 0 (loopAt P 15 0) (rcSt a b 0) (if r = 0 then .exit 0 else .ret) { env := slots 72 [(2, .ptr 0 0), (3, .ptr 1 0), (4, int r)], H := [.box (opc a), .box (opc b)] }) (h : (((r = (0 : Int)) → (((ByteArray.mk (List.toArray x) = ByteArray.mk (List.toArray y)) → (0 : Int) = (v)) ∧ ((¬ByteArray.mk (List.toArray x) = ByteArray.mk (List.toArray y)) → ((((Op.bytesLess (ByteArray.toList (ByteArray.mk (List.toArray x))) (ByteArray.toList (ByteArray.mk (List.toArray y)))) = true) → (-1 : Int) = (v)) ∧ (((Op.bytesLess (ByteArray.toList (ByteArray.mk (List.toArray x))) (ByteArray.toList (ByteArray.mk (List.toArray y)))) = false) → (1 : Int) = (v)))))) ∧ ((¬r = (0 : Int)) → (r : Int) = (v)))) : CallC P G 15 [op a, op b] [] (AOut.ret (int v)) [] := by
  have hz1 := (@hx )
  have hz2 := (@hy )
  have hz3 : bys x = List.map (fun (c : UInt8) => [AV.lit (Value.int IntKind.u8 (↑(UInt8.toNat c) : Int))]) (Array.toList (Array.mk x)) := (rfl)
  have hz4 : bys y = List.map (fun (c : UInt8) => [AV.lit (Value.int IntKind.u8 (↑(UInt8.toNat c) : Int))]) (Array.toList (Array.mk y)) := (rfl)
  by_cases c1 : (r = (0 : Int))
  · have h := h.1 c1
    have hz0 : RunL P G none 0 (loopAt P 15 0) (St.mk (slots 72 [(2, AV.ptr 0 0), (3, AV.ptr 1 0), (4, int 0), (5, AV.sl 1 true [[int (OP.tm a)], [int (OP.dv a)], [int (OP.sq a)]]), (6, AV.sl 1 true [[int (OP.tm b)], [int (OP.dv b)], [int (OP.sq b)]]), (7, int 0)]) [AObj.box [int (OP.dv a), int (OP.sq a), int (OP.tm a), AV.sl 2 false (encs (OP.cx a)), int (OP.pk a), str (OP.pn a), int (OP.kd a), int (OP.f1 a), int (OP.f2 a), int (OP.f3 a), int (OP.t1 a), int (OP.t2 a), int (OP.t3 a), str (OP.ky a), str (OP.vl a), int (OP.n a), Am.bool (OP.on a)], AObj.box [int (OP.dv b), int (OP.sq b), int (OP.tm b), AV.sl 2 false (encs (OP.cx b)), int (OP.pk b), str (OP.pn b), int (OP.kd b), int (OP.f1 b), int (OP.f2 b), int (OP.f3 b), int (OP.t1 b), int (OP.t2 b), int (OP.t3 b), str (OP.ky b), str (OP.vl b), int (OP.n b), Am.bool (OP.on b)]] []) (AEx.exit 0) (St.mk (slots 72 [(2, AV.ptr 0 0), (3, AV.ptr 1 0), (4, int r)]) [AObj.box [int (OP.dv a), int (OP.sq a), int (OP.tm a), AV.sl 2 false (encs (OP.cx a)), int (OP.pk a), str (OP.pn a), int (OP.kd a), int (OP.f1 a), int (OP.f2 a), int (OP.f3 a), int (OP.t1 a), int (OP.t2 a), int (OP.t3 a), str (OP.ky a), str (OP.vl a), int (OP.n a), Am.bool (OP.on a)], AObj.box [int (OP.dv b), int (OP.sq b), int (OP.tm b), AV.sl 2 false (encs (OP.cx b)), int (OP.pk b), str (OP.pn b), int (OP.kd b), int (OP.f1 b), int (OP.f2 b), int (OP.f3 b), int (OP.t1 b), int (OP.t2 b), int (OP.t3 b), str (OP.ky b), str (OP.vl b), int (OP.n b), Am.bool (OP.on b)]] []) := (by have h0 := (@hL ); simp only [if_pos c1] at h0; exact h0)
    have hz5 : Am.Sub (Am.bool (ByteArray.toList (ByteArray.mk (List.toArray x)) == ByteArray.toList (ByteArray.mk (List.toArray y)))) (Am.bool (decide (ByteArray.mk (List.toArray x) = ByteArray.mk (List.toArray y)))) := (Sub.of_eq (by simp only [Go.Cdc.str_eq]))
    by_cases c2 : (ByteArray.mk (List.toArray x) = ByteArray.mk (List.toArray y))
    · have h := h.1 c2
      have e1 := h
      exact callC_out (Sub.int_eq e1) [kl [0, 1, 8, 9, 10, 11, 12, 13, 14, 15, 16, 17, 18, 19, 20, 21, 22, 23, 24, 25, 26, 27, 28, 29, 30, 31, 32, 33, 34, 35, 36, 37, 38, 39, 40, 41, 42, 43, 44, 45, 46, 47, 48, 49, 50, 51, 52, 53, 54, 55, 56, 57, 58, 59, 60, 61, 62, 63, 64, 65, 66, 67, 68, 69, 70, 71] 2 hz0, kc [] hz1, kc [] hz2, ko (Orc.bytes (ByteArray.mk (List.toArray x))), ko (Orc.bytes (ByteArray.mk (List.toArray y))), kp hz3, kp hz4, kv 66 hz5, kt (decide_eq_true c2)] (by kernel_rfl)
    · have h := h.2 c2
      rcases Bool.eq_false_or_eq_true ((Op.bytesLess (ByteArray.toList (ByteArray.mk (List.toArray x))) (ByteArray.toList (ByteArray.mk (List.toArray y))))) with c3 | c3
      · have h := h.1 c3
        have e1 := h
        exact callC_out (Sub.int_eq e1) [kl [0, 1, 8, 9, 10, 11, 12, 13, 14, 15, 16, 17, 18, 19, 20, 21, 22, 23, 24, 25, 26, 27, 28, 29, 30, 31, 32, 33, 34, 35, 36, 37, 38, 39, 40, 41, 42, 43, 44, 45, 46, 47, 48, 49, 50, 51, 52, 53, 54, 55, 56, 57, 58, 59, 60, 61, 62, 63, 64, 65, 66, 67, 68, 69, 70, 71] 2 hz0, kc [] hz1, kc [] hz2, ko (Orc.bytes (ByteArray.mk (List.toArray x))), ko (Orc.bytes (ByteArray.mk (List.toArray y))), kp hz3, kp hz4, kv 66 hz5, kf (decide_eq_false c2), ko (Orc.bytes (ByteArray.mk (List.toArray x))), ko (Orc.bytes (ByteArray.mk (List.toArray y))), kp hz3, kp hz4, kt c3] (by kernel_rfl)
      · have h := h.2 c3
        have e1 := h
        exact callC_out (Sub.int_eq e1) [kl [0, 1, 8, 9, 10, 11, 12, 13, 14, 15, 16, 17, 18, 19, 20, 21, 22, 23, 24, 25, 26, 27, 28, 29, 30, 31, 32, 33, 34, 35, 36, 37, 38, 39, 40, 41, 42, 43, 44, 45, 46, 47, 48, 49, 50, 51, 52, 53, 54, 55, 56, 57, 58, 59, 60, 61, 62, 63, 64, 65, 66, 67, 68, 69, 70, 71] 2 hz0, kc [] hz1, kc [] hz2, ko (Orc.bytes (ByteArray.mk (List.toArray x))), ko (Orc.bytes (ByteArray.mk (List.toArray y))), kp hz3, kp hz4, kv 66 hz5, kf (decide_eq_false c2), ko (Orc.bytes (ByteArray.mk (List.toArray x))), ko (Orc.bytes (ByteArray.mk (List.toArray y))), kp hz3, kp hz4, kf c3] (by kernel_rfl)
  · have h := h.2 c1
    have e1 := h
    exact callC_out (Sub.int_eq e1) [kl [0, 1, 8, 9, 10, 11, 12, 13, 14, 15, 16, 17, 18, 19, 20, 21, 22, 23, 24, 25, 26, 27, 28, 29, 30, 31, 32, 33, 34, 35, 36, 37, 38, 39, 40, 41, 42, 43, 44, 45, 46, 47, 48, 49, 50, 51, 52, 53, 54, 55, 56, 57, 58, 59, 60, 61, 62, 63, 64, 65, 66, 67, 68, 69, 70, 71] 2 (show RunL P G none 0 (loopAt P 15 0) (St.mk (slots 72 [(2, AV.ptr 0 0), (3, AV.ptr 1 0), (4, int 0), (5, AV.sl 1 true [[int (OP.tm a)], [int (OP.dv a)], [int (OP.sq a)]]), (6, AV.sl 1 true [[int (OP.tm b)], [int (OP.dv b)], [int (OP.sq b)]]), (7, int 0)]) [AObj.box [int (OP.dv a), int (OP.sq a), int (OP.tm a), AV.sl 2 false (encs (OP.cx a)), int (OP.pk a), str (OP.pn a), int (OP.kd a), int (OP.f1 a), int (OP.f2 a), int (OP.f3 a), int (OP.t1 a), int (OP.t2 a), int (OP.t3 a), str (OP.ky a), str (OP.vl a), int (OP.n a), Am.bool (OP.on a)], AObj.box [int (OP.dv b), int (OP.sq b), int (OP.tm b), AV.sl 2 false (encs (OP.cx b)), int (OP.pk b), str (OP.pn b), int (OP.kd b), int (OP.f1 b), int (OP.f2 b), int (OP.f3 b), int (OP.t1 b), int (OP.t2 b), int (OP.t3 b), str (OP.ky b), str (OP.vl b), int (OP.n b), Am.bool (OP.on b)]] []) AEx.ret (St.mk (slots 72 [(2, AV.ptr 0 0), (3, AV.ptr 1 0), (4, int r)]) [AObj.box [int (OP.dv a), int (OP.sq a), int (OP.tm a), AV.sl 2 false (encs (OP.cx a)), int (OP.pk a), str (OP.pn a), int (OP.kd a), int (OP.f1 a), int (OP.f2 a), int (OP.f3 a), int (OP.t1 a), int (OP.t2 a), int (OP.t3 a), str (OP.ky a), str (OP.vl a), int (OP.n a), Am.bool (OP.on a)], AObj.box [int (OP.dv b), int (OP.sq b), int (OP.tm b), AV.sl 2 false (encs (OP.cx b)), int (OP.pk b), str (OP.pn b), int (OP.kd b), int (OP.f1 b), int (OP.f2 b), int (OP.f3 b), int (OP.t1 b), int (OP.t2 b), int (OP.t3 b), str (OP.ky b), str (OP.vl b), int (OP.n b), Am.bool (OP.on b)]] []) from (by have h0 := (@hL ); simp only [if_neg c1] at h0; exact h0))] (by kernel_rfl)

theorem rc_loop (a b : OP) : RunL P G none 0 (loopAt P 15 0) (rcSt a b 0) (if orV [cmpV a.tm b.tm, cmpV a.dv b.dv, cmpV a.sq b.sq] = 0 then .exit 0 else .ret) { env := slots 72 [(2, .ptr 0 0), (3, .ptr 1 0), (4, int (orV [cmpV a.tm b.tm, cmpV a.dv b.dv, cmpV a.sq b.sq]))], H := [.box (opc a), .box (opc b)] } := by
  have c0 : ∀ {x y : Int}, x = y → cmpV x y = 0 := fun h => by unfold cmpV; grind
  have c1 : ∀ {x y : Int}, x < y → cmpV x y = -1 := fun h => by unfold cmpV; grind
  have c2 : ∀ {x y : Int}, ¬ x = y → ¬ x < y → cmpV x y = 1 := fun h h' => by unfold cmpV; grind
  refine rc0_w a b _ _ ⟨fun h => ?_, fun h => ⟨fun h' => ?_, fun h' => ?_⟩⟩
  · refine rc1_w a b _ _ ⟨fun g => ?_, fun g => ⟨fun g' => ?_, fun g' => ?_⟩⟩
    · refine rc2_w a b _ _ ⟨fun k => ?_, fun k => ⟨fun k' => ?_, fun k' => ?_⟩⟩
      · refine rc3_w a b _ _ ?_
        simp [orV, c0 h, c0 g, c0 k]
      · simp [orV, c0 h, c0 g, c1 k']
      · simp [orV, c0 h, c0 g, c2 k k']
    · simp [orV, c0 h, c1 g']
    · simp [orV, c0 h, c2 g g']
  · simp [orV, c1 h']
  · simp [orV, c2 h h']
theorem less_cmp : ∀ x y : List UInt8, Op.bytesLess x y = decide (Lib.compareBytes x y = -1)
  | [], [] => by simp [Op.bytesLess, Lib.compareBytes]
  | [], _ :: _ => by simp [Op.bytesLess, Lib.compareBytes]
  | _ :: _, [] => by simp [Op.bytesLess, Lib.compareBytes]
  | a :: xs, b :: ys => by
    have ih := less_cmp xs ys
    simp only [Op.bytesLess, Lib.compareBytes]
    by_cases h1 : a < b
    · simp [h1]
    · by_cases h2 : b < a
      · have : a ≠ b := fun e => by subst e; exact absurd h2 (UInt8.lt_irrefl a)
        simp [h1, h2, this]
      · have e : a = b := UInt8.le_antisymm (UInt8.not_lt.1 h2) (UInt8.not_lt.1 h1)
        simp [h1, h2, ih, e]
theorem cmp_eq0 : ∀ x y : List UInt8, Lib.compareBytes x y = 0 ↔ x = y
  | [], [] => by simp [Lib.compareBytes]
  | [], _ :: _ => by simp [Lib.compareBytes]
  | _ :: _, [] => by simp [Lib.compareBytes]
  | a :: xs, b :: ys => by
    have ih := cmp_eq0 xs ys
    simp only [Lib.compareBytes]
    by_cases h1 : a < b
    · simp [h1]
      intro e; subst e
      exact absurd h1 (UInt8.lt_irrefl a)
    · by_cases h2 : b < a
      · simp [h1, h2]
        intro e; subst e
        exact absurd h2 (UInt8.lt_irrefl a)
      · have e : a = b := UInt8.le_antisymm (UInt8.not_lt.1 h2) (UInt8.not_lt.1 h1)
        simp [h1, h2, ih, e]
theorem cmp_range : ∀ x y : List UInt8, Lib.compareBytes x y = -1 ∨ Lib.compareBytes x y = 0 ∨ Lib.compareBytes x y = 1
  | [], [] => by simp [Lib.compareBytes]
  | [], _ :: _ => by simp [Lib.compareBytes]
  | _ :: _, [] => by simp [Lib.compareBytes]
  | a :: xs, b :: ys => by
    have ih := cmp_range xs ys
    simp only [Lib.compareBytes]
    split
    · simp
    · split
      · simp
      · exact ih
theorem rcmp_c (a b : OP) (x y : List UInt8) (e1 e2 : Int) (hx : CallC P G 19 [op a] [] (.ret (.tup [byt x, int e1])) []) (hy : CallC P G 19 [op b] [] (.ret (.tup [byt y, int e2])) []) : CallC P G 15 [op a, op b] [] (.ret (int (cmpOV a b x y))) [] := by
  refine rcmp_w a b x y e1 e2 _ _ hx hy (rc_loop a b) ?_
  have e : ∀ z : List UInt8, ByteArray.toList (ByteArray.mk z.toArray) = z := fun z => by rw [ByteArray.toList_eq]
  have e' : (ByteArray.mk x.toArray = ByteArray.mk y.toArray) ↔ x = y := by simp
  simp only [e, e', less_cmp, decide_eq_true_eq, decide_eq_false_iff_not]
  have h0 := cmp_eq0 x y
  have hr := cmp_range x y
  unfold cmpOV
  refine ⟨fun h => ⟨fun g => ?_, fun g => ⟨fun k => ?_, fun k => ?_⟩⟩, fun h => ?_⟩
  · rw [if_pos h, h0.2 g]
  · rw [if_pos h, k]
  · rw [if_pos h]
    rcases hr with q | q | q
    · exact absurd q k
    · exact absurd (h0.1 q) g
    · exact q.symm
  · rw [if_neg h]

end Go.Ops

/- CODEC, 1: the readers' bytes. -/
namespace Go.Cdc
set_option maxRecDepth 100000
set_option linter.unusedSimpArgs false
set_option linter.unusedVariables false
open Go Go.Am Go.Proofs Go.Seat

/-! Arithmetic -/
theorem wrap_u64 (n : Nat) : IntKind.wrap .u64 (n : Int) = ((n % 18446744073709551616 : Nat) : Int) := by
  show (let m := (n : Int) % (2 ^ 64 : Int); if (IntKind.u64.signed && m ≥ (2 ^ (64 - 1) : Int)) = true then m - (2 ^ 64 : Int) else m) = _
  simp [IntKind.signed]
theorem wrap_u8 (n : Nat) : IntKind.wrap .u8 (n : Int) = ((n % 256 : Nat) : Int) := by
  show (let m := (n : Int) % (2 ^ 8 : Int); if (IntKind.u8.signed && m ≥ (2 ^ (8 - 1) : Int)) = true then m - (2 ^ 8 : Int) else m) = _
  simp [IntKind.signed]
theorem ofInt_nat (w n : Nat) : (BitVec.ofInt w (n : Int)).toNat = n % 2 ^ w := by simp [BitVec.toNat_ofInt]
theorem wrap64 {n : Nat} (h : n < 18446744073709551616) : IntKind.wrap .u64 (n : Int) = (n : Int) := by rw [wrap_u64, Nat.mod_eq_of_lt h]
theorem wrap8 {n : Nat} (h : n < 256) : IntKind.wrap .u8 (n : Int) = (n : Int) := by rw [wrap_u8, Nat.mod_eq_of_lt h]
/-- What a digit adds, in the machine's words. -/
def num1 (u : Nat) (c : UInt8) (i : Nat) : Int := IntKind.wrap IntKind.u64 (↑(BitVec.toNat (BitVec.ofInt (IntKind.bits IntKind.u64) (↑u : Int) ||| BitVec.ofInt (IntKind.bits IntKind.u64) (IntKind.wrap IntKind.u64 (IntKind.wrap IntKind.u64 (IntKind.wrap IntKind.u8 (↑(BitVec.toNat (BitVec.ofInt (IntKind.bits IntKind.u8) (↑(UInt8.toNat c) : Int) &&& BitVec.ofInt (IntKind.bits IntKind.u8) 127)) : Int)) * 2 ^ min (Int.toNat (7 * (↑i : Int))) (IntKind.bits IntKind.u64))))) : Int)
theorem num1_fold (u : Nat) (c : UInt8) (i : Nat) : IntKind.wrap IntKind.u64 (↑(BitVec.toNat (BitVec.ofInt (IntKind.bits IntKind.u64) (↑u : Int) ||| BitVec.ofInt (IntKind.bits IntKind.u64) (IntKind.wrap IntKind.u64 (IntKind.wrap IntKind.u64 (IntKind.wrap IntKind.u8 (↑(BitVec.toNat (BitVec.ofInt (IntKind.bits IntKind.u8) (↑(UInt8.toNat c) : Int) &&& BitVec.ofInt (IntKind.bits IntKind.u8) 127)) : Int)) * 2 ^ min (Int.toNat (7 * (↑i : Int))) (IntKind.bits IntKind.u64))))) : Int) = num1 u c i := rfl
theorem digit_fits {u c i : Nat} (hu : u < 2 ^ (7 * i)) (hi : i ≤ 9) (hc : i = 9 → c ≤ 1) : u + c % 128 * 2 ^ (7 * i) < 2 ^ (7 * (i + 1)) ∧ u + c % 128 * 2 ^ (7 * i) < 18446744073709551616 := by
  have h1 : c % 128 < 128 := Nat.mod_lt _ (by decide)
  have h2 : 2 ^ (7 * (i + 1)) = 128 * 2 ^ (7 * i) := by rw [Nat.mul_add, Nat.pow_add]; omega
  have h3 : u + c % 128 * 2 ^ (7 * i) < 128 * 2 ^ (7 * i) := by
    have := Nat.mul_le_mul_right (2 ^ (7 * i)) (show c % 128 ≤ 127 by omega)
    omega
  refine ⟨by rw [h2]; exact h3, ?_⟩
  rcases Nat.lt_or_eq_of_le hi with h | rfl
  · have : 2 ^ (7 * (i + 1)) ≤ 2 ^ 63 := Nat.pow_le_pow_right (by decide) (by omega)
    rw [h2] at this
    have : (2 : Nat) ^ 63 < 18446744073709551616 := by decide
    omega
  · have := hc rfl
    have h5 : (2 : Nat) ^ (7 * 9) = 9223372036854775808 := by decide
    rw [h5] at hu ⊢
    have : c % 128 ≤ 1 := by omega
    omega
theorem num1_eq {u : Nat} {c : UInt8} {i : Nat} (hu : u < 2 ^ (7 * i)) (hi : i ≤ 9) (hc : i = 9 → c.toNat ≤ 1) : num1 u c i = ((u + c.toNat % 128 * 2 ^ (7 * i) : Nat) : Int) := by
  have hfit := (digit_fits hu hi hc).2
  have hc8 : c.toNat < 256 := c.toNat_lt
  have e1 : (BitVec.ofInt (IntKind.bits IntKind.u8) (↑c.toNat : Int) &&& BitVec.ofInt (IntKind.bits IntKind.u8) 127).toNat = c.toNat % 128 := by
    have : (127 : Int) = ((127 : Nat) : Int) := rfl
    rw [BitVec.toNat_and, this, ofInt_nat, ofInt_nat]
    show (c.toNat % 2 ^ 8) &&& (127 % 2 ^ 8) = _
    rw [Nat.mod_eq_of_lt (show c.toNat < 2 ^ 8 by omega), Nat.mod_eq_of_lt (show 127 < 2 ^ 8 by decide)]
    exact Nat.and_two_pow_sub_one_eq_mod c.toNat 7
  have e2 : (7 * (i : Int)).toNat = 7 * i := by omega
  have e3 : min (7 * i) (IntKind.bits IntKind.u64) = 7 * i := by show min (7 * i) 64 = _; omega
  unfold num1
  rw [e1, e2, e3, wrap8 (show c.toNat % 128 < 256 by omega), wrap64 (show c.toNat % 128 < 18446744073709551616 by omega)]
  have e4 : ((c.toNat % 128 : Nat) : Int) * 2 ^ (7 * i) = ((c.toNat % 128 * 2 ^ (7 * i) : Nat) : Int) := by push_cast; rfl
  rw [e4, wrap64 (show c.toNat % 128 * 2 ^ (7 * i) < 18446744073709551616 by omega), BitVec.toNat_or, ofInt_nat, ofInt_nat]
  have e5 : ∀ n, n < 18446744073709551616 → n % 2 ^ IntKind.bits IntKind.u64 = n := fun n hn => Nat.mod_eq_of_lt hn
  rw [e5 _ (by omega), e5 _ (by omega)]
  have e6 : u ||| c.toNat % 128 * 2 ^ (7 * i) = u + c.toNat % 128 * 2 ^ (7 * i) := by
    have := Nat.two_pow_add_eq_or_of_lt hu (c.toNat % 128)
    rw [Nat.or_comm, Nat.mul_comm, ← this]
    omega
  rw [e6, wrap64 hfit]

theorem want_w (o : AObj) (b : Bool) (out : AOut) (h : ((((b) = true) → AOut.ret (AV.tup []) = out) ∧ (((b) = false) → AOut.pan (AV.ifc 33 (int 10)) = out))) : CallC P G 58 [AV.ptr 0 0, Am.bool b] [o] out [o] := by
  rcases Bool.eq_false_or_eq_true ((b)) with c1 | c1
  · have h := h.1 c1
    have e1 := h
    exact e1 ▸ ((show CallC P G 58 [AV.ptr 0 0, Am.bool b] [o] (AOut.ret (AV.tup [])) [o] from callC_of [kf (show (!b) = false from (congrArg Bool.not (c1)))] (by kernel_rfl)))
  · have h := h.2 c1
    have e1 := h
    exact e1 ▸ ((show CallC P G 58 [AV.ptr 0 0, Am.bool b] [o] (AOut.pan (AV.ifc 33 (int 10))) [o] from callC_of [kt (show (!b) = true from (congrArg Bool.not (c1)))] (by kernel_rfl)))


theorem want_c (o : AObj) (b : Bool) : CallC P G 58 [.ptr 0 0, bool b] [o] (if b = true then .ret (.tup []) else .pan badErr) [o] :=
  want_w o b _ ⟨fun h => by rw [if_pos h], fun h => by rw [if_neg (by simp [h])]; rfl⟩

theorem takeX_t (xs : List (List AV)) (n : Nat) (h : n ≤ xs.length) (hl : xs.length ≤ 1000000000) (h : True) : CallC P G 77 [AV.ptr 0 0, int (↑n : Int)] [AObj.box [AV.sl 1 false xs]] (AOut.ret (AV.sl 1 false (List.take n xs))) [AObj.box [AV.sl 1 false (List.drop n xs)]] := by
  have _ := h
  exact callC_of [kc [0] (show CallC P G 58 [AV.ptr 0 0, Am.bool (decide ((↑n : Int) ≤ (↑(List.length xs) : Int)))] [AObj.box [AV.sl 1 false xs]] (AOut.ret (AV.tup [])) [AObj.box [AV.sl 1 false xs]] from (by have h0 := (@Go.Cdc.want_c (AObj.box [AV.sl 1 false xs]) (decide ((↑n : Int) ≤ (↑(List.length xs) : Int)))); simp only [if_pos (show decide ((↑n : Int) ≤ (↑(List.length xs) : Int)) = true from decide_eq_true (by omega))] at h0; exact h0)), kp (show (0 : Int) ≤ (0 : Int) ∧ (0 : Int) ≤ (↑n : Int) ∧ (↑n : Int) ≤ (↑n : Int) ∧ (↑n : Int) ≤ (↑(List.length xs) : Int) from (by omega)), kv 28 (show Am.Sub (AV.sl 1 false (List.drop (Int.toNat (↑n : Int)) (List.take (Int.toNat (↑(List.length xs) : Int)) xs))) (AV.sl 1 false (List.drop n xs)) from (Sub.of_eq (by simp only [Int.toNat_natCast, List.take_length]))), kp (show (0 : Int) ≤ (↑n : Int) ∧ (↑n : Int) ≤ (↑(List.length xs) : Int) ∧ (↑(List.length xs) : Int) ≤ (↑(List.length xs) : Int) from (by omega))] (by kernel_rfl)


theorem takeX_f (xs : List (List AV)) (n : Nat) (h : xs.length < n) (hl : xs.length ≤ 1000000000) (h : True) : CallC P G 77 [AV.ptr 0 0, int (↑n : Int)] [AObj.box [AV.sl 1 false xs]] (AOut.pan badErr) [AObj.box [AV.sl 1 false xs]] := by
  have _ := h
  exact callC_of [kc [0] (show CallC P G 58 [AV.ptr 0 0, Am.bool (decide ((↑n : Int) ≤ (↑(List.length xs) : Int)))] [AObj.box [AV.sl 1 false xs]] (AOut.pan (AV.ifc 33 (int 10))) [AObj.box [AV.sl 1 false xs]] from (by have h0 := (@Go.Cdc.want_c (AObj.box [AV.sl 1 false xs]) (decide ((↑n : Int) ≤ (↑(List.length xs) : Int)))); simp only [if_neg (show ¬ (decide ((↑n : Int) ≤ (↑(List.length xs) : Int)) = true) from Bool.eq_false_iff.1 (decide_eq_false (by omega)))] at h0; exact h0))] (by kernel_rfl)


theorem take_t (l : List UInt8) (n : Nat) (h : n ≤ l.length) (hl : l.length ≤ 1000000000) : CallC P G 77 [.ptr 0 0, int n] (rdr l) (.ret (byt (l.take n))) (rdr (l.drop n)) := by
  have := takeX_t (bys l) n (by rw [bys_length]; exact h) (by rw [bys_length]; exact hl) trivial
  rw [bys_take, bys_drop] at this
  exact this
theorem take_f (l : List UInt8) (n : Nat) (h : l.length < n) (hl : l.length ≤ 1000000000) : CallC P G 77 [.ptr 0 0, int n] (rdr l) (.pan badErr) (rdr l) :=
  takeX_f (bys l) n (by rw [bys_length]; exact h) (by rw [bys_length]; exact hl) trivial
theorem one_any (x : AV) (r : List UInt8) (hl : r.length ≤ 999999999) : CallC P G 77 [.ptr 0 0, int 1] [.box [.sl 1 false ([x] :: bys r)]] (.ret (.sl 1 false [[x]])) (rdr r) :=
  takeX_t ([x] :: bys r) 1 (by simp) (by simp [bys_length]; omega) trivial

def rdrC (c : UInt8) (r : List UInt8) : List AObj := [.box [.sl 1 false ([u8 c] :: bys r)]]
theorem one_nil : CallC P G 77 [.ptr 0 0, int 1] (rdr []) (.pan badErr) (rdr []) := take_f [] 1 (by simp) (by simp)
theorem one_cons (c : UInt8) (r : List UInt8) (hl : r.length ≤ 999999999) : CallC P G 77 [.ptr 0 0, int 1] (rdrC c r) (.ret (.sl 1 false [[u8 c]])) (rdr r) := take_t (c :: r) 1 (by simp) (by simp; omega)

/-- The program's reader within a numeral. -/
def numSt (l : List UInt8) (u i : Nat) : St := { env := slots 38 [(0, .ptr 0 0), (2, u64 u), (3, int i)], H := rdr l }

theorem num_nil (u i : Nat) (ex : AEx) (h : AEx.pan (AV.ifc 33 (int 10)) = ex) : RunL P G none 1 (loopAt P 79 0) (numSt [] u i) ex { env := slots 38 [(2, u64 u)], H := rdr [] } := by
  have eX := h
  exact RunL.to ((show RunL P G none 1 (loopAt P 79 0) (numSt [] u i) (AEx.pan (AV.ifc 33 (int 10))) { env := slots 38 [(2, AV.lit (Value.int IntKind.u64 (↑u : Int)))], H := [AObj.box [AV.sl 1 false []]] } from loop_exit [kc [0] (@Go.Cdc.one_nil )] (others 38 [2]) 1 (by kernel_rfl))) eX (SubS.of_eq rfl)


def numSt1 (c : UInt8) (r : List UInt8) (u i : Nat) : St := { env := slots 38 [(0, .ptr 0 0), (2, u64 u), (3, int i)], H := rdrC c r }

theorem num_cons (c : UInt8) (r : List UInt8) (hl : r.length ≤ 999999999) (u i : Nat) (hi : i ≤ 9) (ex : AEx) (v : Int) (o : AObj) (h : ((((↑i : Int) = (0 : Int)) → ((((↑(UInt8.toNat c) : Int) < (128 : Int)) → (AEx.ret = ex) ∧ ((num1 u c i : Int) = (v)) ∧ ([AObj.box [AV.sl 1 false (bys r)]] = [o])) ∧ ((¬(↑(UInt8.toNat c) : Int) < (128 : Int)) → RunL P G none 1 (loopAt P 79 0) { env := slots 38 [(0, AV.ptr 0 0), (2, AV.lit (Value.int IntKind.u64 (num1 u c i))), (3, int (↑(i + 1) : Int))], H := [AObj.box [AV.sl 1 false (bys r)]] } ex { env := slots 38 [(2, AV.lit (Value.int IntKind.u64 v))], H := [o] }))) ∧ ((¬(↑i : Int) = (0 : Int)) → ((((↑(UInt8.toNat c) : Int) = (0 : Int)) → (AEx.pan (AV.ifc 33 (int 10)) = ex) ∧ (((↑u : Int) : Int) = (v)) ∧ ([AObj.box [AV.sl 1 false (bys r)]] = [o])) ∧ ((¬(↑(UInt8.toNat c) : Int) = (0 : Int)) → ((((↑i : Int) < (9 : Int)) → ((((↑(UInt8.toNat c) : Int) < (128 : Int)) → (AEx.ret = ex) ∧ ((num1 u c i : Int) = (v)) ∧ ([AObj.box [AV.sl 1 false (bys r)]] = [o])) ∧ ((¬(↑(UInt8.toNat c) : Int) < (128 : Int)) → RunL P G none 1 (loopAt P 79 0) { env := slots 38 [(0, AV.ptr 0 0), (2, AV.lit (Value.int IntKind.u64 (num1 u c i))), (3, int (↑(i + 1) : Int))], H := [AObj.box [AV.sl 1 false (bys r)]] } ex { env := slots 38 [(2, AV.lit (Value.int IntKind.u64 v))], H := [o] }))) ∧ ((¬(↑i : Int) < (9 : Int)) → ((((↑(UInt8.toNat c) : Int) ≤ (1 : Int)) → (AEx.ret = ex) ∧ ((num1 u c i : Int) = (v)) ∧ ([AObj.box [AV.sl 1 false (bys r)]] = [o])) ∧ ((¬(↑(UInt8.toNat c) : Int) ≤ (1 : Int)) → (AEx.pan (AV.ifc 33 (int 10)) = ex) ∧ (((↑u : Int) : Int) = (v)) ∧ ([AObj.box [AV.sl 1 false (bys r)]] = [o])))))))))) : RunL P G none 1 (loopAt P 79 0) (numSt1 c r u i) ex { env := slots 38 [(2, AV.lit (Value.int IntKind.u64 v))], H := [o] } := by
  have hz0 := (@Go.Cdc.one_cons (c) (r) (by omega))
  have hz1 : (0 : Int) ≤ (0 : Int) ∧ [[u8 c]][Int.toNat 0]? = some [AV.lit (Value.int IntKind.u8 (↑(UInt8.toNat c) : Int))] := (⟨by decide, rfl⟩)
  by_cases c1 : ((↑i : Int) = (0 : Int))
  · have h := h.1 c1
    have hz2 : decide ((↑i : Int) < (9 : Int)) = true := (decide_eq_true (by omega))
    have hz3 : CallC P G 58 [AV.ptr 0 0, Am.bool true] [AObj.box [AV.sl 1 false (bys r)]] (AOut.ret (AV.tup [])) [AObj.box [AV.sl 1 false (bys r)]] := (by have h0 := (@Go.Cdc.want_c (AObj.box [AV.sl 1 false (bys r)]) (true)); simp only [if_pos (show true = true from rfl)] at h0; exact h0)
    have hz4 : Am.Sub (int (IntKind.wrap IntKind.i64 (7 * (↑i : Int)))) (int (7 * (↑i : Int))) := (Sub.of_wrap (by omega) (by omega) rfl)
    have hz5 : (0 : Int) ≤ 7 * (↑i : Int) := (by omega)
    by_cases c3 : ((↑(UInt8.toNat c) : Int) < (128 : Int))
    · have h := h.1 c3
      obtain ⟨eX, e1, eH⟩ := h
      exact RunL.to ((show RunL P G none 1 (loopAt P 79 0) (numSt1 c r u i) AEx.ret { env := slots 38 [(2, AV.lit (Value.int IntKind.u64 (num1 u c i)))], H := [AObj.box [AV.sl 1 false (bys r)]] } from loop_exit [kc [0] hz0, ko (Orc.elem [AV.lit (Value.int IntKind.u8 (↑(UInt8.toNat c) : Int))]), kp hz1, kt (beq_iff_eq.2 c1), kt (Eq.refl true), kt hz2, kc [0] hz3, kv 32 hz4, kp hz5, kt (decide_eq_true c3)] (others 38 [2]) 1 (by kernel_rfl))) eX (SubS.slotsH ⟨rfl, (Sub.int_eq e1), trivial⟩ eH)
    · have h := h.2 c3
      exact loop_next [kc [0] hz0, ko (Orc.elem [AV.lit (Value.int IntKind.u8 (↑(UInt8.toNat c) : Int))]), kp hz1, kt (beq_iff_eq.2 c1), kt (Eq.refl true), kt hz2, kc [0] hz3, kv 32 hz4, kp hz5, kf (decide_eq_false c3), kv 6 (show Am.Sub (int (IntKind.wrap IntKind.i64 ((↑i : Int) + 1))) (int (↑(i + 1) : Int)) from (Sub.of_wrap (by omega) (by omega) (by omega)))] (others 38 [0, 2, 3]) 1 h (by kernel_rfl)
  · have h := h.2 c1
    have hz3 : CallC P G 58 [AV.ptr 0 0, Am.bool true] [AObj.box [AV.sl 1 false (bys r)]] (AOut.ret (AV.tup [])) [AObj.box [AV.sl 1 false (bys r)]] := (by have h0 := (@Go.Cdc.want_c (AObj.box [AV.sl 1 false (bys r)]) (true)); simp only [if_pos (show true = true from rfl)] at h0; exact h0)
    have hz4 : Am.Sub (int (IntKind.wrap IntKind.i64 (7 * (↑i : Int)))) (int (7 * (↑i : Int))) := (Sub.of_wrap (by omega) (by omega) rfl)
    have hz5 : (0 : Int) ≤ 7 * (↑i : Int) := (by omega)
    by_cases c4 : ((↑(UInt8.toNat c) : Int) = (0 : Int))
    · have h := h.1 c4
      obtain ⟨eX, e1, eH⟩ := h
      exact RunL.to ((show RunL P G none 1 (loopAt P 79 0) (numSt1 c r u i) (AEx.pan (AV.ifc 33 (int 10))) { env := slots 38 [(2, AV.lit (Value.int IntKind.u64 (↑u : Int)))], H := [AObj.box [AV.sl 1 false (bys r)]] } from loop_exit [kc [0] hz0, ko (Orc.elem [AV.lit (Value.int IntKind.u8 (↑(UInt8.toNat c) : Int))]), kp hz1, kf (beq_eq_false_iff_ne.2 c1), kf (show ((↑(UInt8.toNat c) : Int) != 0) = false from (congrArg Bool.not (beq_iff_eq.2 c4))), kc [0] (show CallC P G 58 [AV.ptr 0 0, Am.bool false] [AObj.box [AV.sl 1 false (bys r)]] (AOut.pan (AV.ifc 33 (int 10))) [AObj.box [AV.sl 1 false (bys r)]] from (by have h0 := (@Go.Cdc.want_c (AObj.box [AV.sl 1 false (bys r)]) (false)); simp only [if_neg (show ¬ (false = true) from Bool.eq_false_iff.1 (rfl))] at h0; exact h0))] (others 38 [2]) 1 (by kernel_rfl))) eX (SubS.slotsH ⟨rfl, (Sub.int_eq e1), trivial⟩ eH)
    · have h := h.2 c4
      have hz9 : ((↑(UInt8.toNat c) : Int) != 0) = true := (congrArg Bool.not (beq_eq_false_iff_ne.2 c4))
      by_cases c5 : ((↑i : Int) < (9 : Int))
      · have h := h.1 c5
        by_cases c6 : ((↑(UInt8.toNat c) : Int) < (128 : Int))
        · have h := h.1 c6
          obtain ⟨eX, e1, eH⟩ := h
          exact RunL.to ((show RunL P G none 1 (loopAt P 79 0) (numSt1 c r u i) AEx.ret { env := slots 38 [(2, AV.lit (Value.int IntKind.u64 (num1 u c i)))], H := [AObj.box [AV.sl 1 false (bys r)]] } from loop_exit [kc [0] hz0, ko (Orc.elem [AV.lit (Value.int IntKind.u8 (↑(UInt8.toNat c) : Int))]), kp hz1, kf (beq_eq_false_iff_ne.2 c1), kt hz9, kt (decide_eq_true c5), kc [0] hz3, kv 32 hz4, kp hz5, kt (decide_eq_true c6)] (others 38 [2]) 1 (by kernel_rfl))) eX (SubS.slotsH ⟨rfl, (Sub.int_eq e1), trivial⟩ eH)
        · have h := h.2 c6
          exact loop_next [kc [0] hz0, ko (Orc.elem [AV.lit (Value.int IntKind.u8 (↑(UInt8.toNat c) : Int))]), kp hz1, kf (beq_eq_false_iff_ne.2 c1), kt hz9, kt (decide_eq_true c5), kc [0] hz3, kv 32 hz4, kp hz5, kf (decide_eq_false c6), kv 6 (show Am.Sub (int (IntKind.wrap IntKind.i64 ((↑i : Int) + 1))) (int (↑(i + 1) : Int)) from (Sub.of_wrap (by omega) (by omega) (by omega)))] (others 38 [0, 2, 3]) 1 h (by kernel_rfl)
      · have h := h.2 c5
        by_cases c7 : ((↑(UInt8.toNat c) : Int) ≤ (1 : Int))
        · have h := h.1 c7
          obtain ⟨eX, e1, eH⟩ := h
          exact RunL.to ((show RunL P G none 1 (loopAt P 79 0) (numSt1 c r u i) AEx.ret { env := slots 38 [(2, AV.lit (Value.int IntKind.u64 (num1 u c i)))], H := [AObj.box [AV.sl 1 false (bys r)]] } from loop_exit [kc [0] hz0, ko (Orc.elem [AV.lit (Value.int IntKind.u8 (↑(UInt8.toNat c) : Int))]), kp hz1, kf (beq_eq_false_iff_ne.2 c1), kt hz9, kf (decide_eq_false c5), kc [0] (show CallC P G 58 [AV.ptr 0 0, Am.bool (decide ((↑(UInt8.toNat c) : Int) ≤ (1 : Int)))] [AObj.box [AV.sl 1 false (bys r)]] (AOut.ret (AV.tup [])) [AObj.box [AV.sl 1 false (bys r)]] from (by have h0 := (@Go.Cdc.want_c (AObj.box [AV.sl 1 false (bys r)]) (decide ((↑(UInt8.toNat c) : Int) ≤ (1 : Int)))); simp only [if_pos (show decide ((↑(UInt8.toNat c) : Int) ≤ (1 : Int)) = true from decide_eq_true c7)] at h0; exact h0)), kv 32 hz4, kp hz5, kt (show decide ((↑(UInt8.toNat c) : Int) < (128 : Int)) = true from (decide_eq_true (by omega)))] (others 38 [2]) 1 (by kernel_rfl))) eX (SubS.slotsH ⟨rfl, (Sub.int_eq e1), trivial⟩ eH)
        · have h := h.2 c7
          obtain ⟨eX, e1, eH⟩ := h
          exact RunL.to ((show RunL P G none 1 (loopAt P 79 0) (numSt1 c r u i) (AEx.pan (AV.ifc 33 (int 10))) { env := slots 38 [(2, AV.lit (Value.int IntKind.u64 (↑u : Int)))], H := [AObj.box [AV.sl 1 false (bys r)]] } from loop_exit [kc [0] hz0, ko (Orc.elem [AV.lit (Value.int IntKind.u8 (↑(UInt8.toNat c) : Int))]), kp hz1, kf (beq_eq_false_iff_ne.2 c1), kt hz9, kf (decide_eq_false c5), kc [0] (show CallC P G 58 [AV.ptr 0 0, Am.bool (decide ((↑(UInt8.toNat c) : Int) ≤ (1 : Int)))] [AObj.box [AV.sl 1 false (bys r)]] (AOut.pan (AV.ifc 33 (int 10))) [AObj.box [AV.sl 1 false (bys r)]] from (by have h0 := (@Go.Cdc.want_c (AObj.box [AV.sl 1 false (bys r)]) (decide ((↑(UInt8.toNat c) : Int) ≤ (1 : Int)))); simp only [if_neg (show ¬ (decide ((↑(UInt8.toNat c) : Int) ≤ (1 : Int)) = true) from Bool.eq_false_iff.1 (decide_eq_false c7))] at h0; exact h0))] (others 38 [2]) 1 (by kernel_rfl))) eX (SubS.slotsH ⟨rfl, (Sub.int_eq e1), trivial⟩ eH)


/-- A numeral: whether it is one, its number, what remains. -/
def numF : List UInt8 → Nat → Nat → Bool × Nat × List UInt8
  | [], u, _ => (false, u, [])
  | c :: r, u, i => if (i ≠ 0 ∧ c.toNat = 0) ∨ (9 ≤ i ∧ 1 < c.toNat) then (false, u, r)
    else if c.toNat < 128 then (true, u + c.toNat % 128 * 2 ^ (7 * i), r) else numF r (u + c.toNat % 128 * 2 ^ (7 * i)) (i + 1)

theorem num_loop : ∀ (l : List UInt8) (u i : Nat), l.length ≤ 1000000000 → u < 2 ^ (7 * i) → i ≤ 9 →
    RunL P G none 1 (loopAt P 79 0) (numSt l u i) (if (numF l u i).1 = true then .ret else .pan badErr) { env := slots 38 [(2, u64 (numF l u i).2.1)], H := rdr (numF l u i).2.2 }
  | [], u, i, _, _, _ => num_nil u i _ rfl
  | c :: r, u, i, hl, hu, hi => by
    have hl' : r.length ≤ 999999999 := by simp at hl; omega
    have hc8 : c.toNat < 256 := c.toNat_lt
    have go : (i = 9 → c.toNat ≤ 1) → ¬ (c.toNat < 128) → ¬ (i ≠ 0 ∧ c.toNat = 0) → RunL P G none 1 (loopAt P 79 0) { env := slots 38 [(0, AV.ptr 0 0), (2, AV.lit (Value.int IntKind.u64 (num1 u c i))), (3, int (↑(i + 1) : Int))], H := [AObj.box [AV.sl 1 false (bys r)]] }
        (if (numF (c :: r) u i).1 = true then .ret else .pan badErr) { env := slots 38 [(2, u64 (numF (c :: r) u i).2.1)], H := rdr (numF (c :: r) u i).2.2 } := fun h9 hc h0 => by
      have hi' : i ≤ 8 := by
        rcases Nat.lt_or_eq_of_le hi with h | h
        · omega
        · have := h9 h; omega
      rw [num1_eq hu hi h9]
      have e : numF (c :: r) u i = numF r (u + c.toNat % 128 * 2 ^ (7 * i)) (i + 1) := by
        simp only [numF]
        rw [if_neg (by omega), if_neg hc]
      rw [e]
      exact num_loop r _ (i + 1) (by omega) (digit_fits hu hi h9).1 (by omega)
    have fin : (i = 9 → c.toNat ≤ 1) → c.toNat < 128 → ¬ (i ≠ 0 ∧ c.toNat = 0) → numF (c :: r) u i = (true, u + c.toNat % 128 * 2 ^ (7 * i), r) := fun h9 hc h0 => by
      simp only [numF]
      rw [if_neg (by omega), if_pos hc]
    have bad : (i ≠ 0 ∧ c.toNat = 0) ∨ (9 ≤ i ∧ 1 < c.toNat) → numF (c :: r) u i = (false, u, r) := fun h => by
      simp only [numF]
      rw [if_pos h]
    refine num_cons c r hl' u i hi _ _ _ ⟨fun h0 => ⟨fun hc => ?_, fun hc => go (by omega) (by omega) (by omega)⟩, fun h0 => ⟨fun hz => ?_, fun hz => ⟨fun h9 => ⟨fun hc => ?_, fun hc => go (by omega) (by omega) (by omega)⟩, fun h9 => ⟨fun h1 => ?_, fun h1 => ?_⟩⟩⟩⟩
    · rw [fin (by omega) (by omega) (by omega)]; exact ⟨rfl, num1_eq hu hi (by omega), rfl⟩
    · rw [bad (.inl (by omega))]; exact ⟨rfl, rfl, rfl⟩
    · rw [fin (by omega) (by omega) (by omega)]; exact ⟨rfl, num1_eq hu hi (by omega), rfl⟩
    · rw [fin (by omega) (by omega) (by omega)]; exact ⟨rfl, num1_eq hu hi (by omega), rfl⟩
    · rw [bad (.inr (by omega))]; exact ⟨rfl, rfl, rfl⟩

def numOk (l : List UInt8) : Bool := (numF l 0 0).1
def numU (l : List UInt8) : Nat := (numF l 0 0).2.1
def numR (l : List UInt8) : List UInt8 := (numF l 0 0).2.2
theorem num_l (l : List UInt8) (hl : l.length ≤ 1000000000) : RunL P G none 1 (loopAt P 79 0) (numSt l 0 0) (if numOk l = true then .ret else .pan badErr) { env := slots 38 [(2, u64 (numU l))], H := rdr (numR l) } :=
  num_loop l 0 0 hl (by simp) (by omega)

theorem number_w (l : List UInt8) (hl : l.length ≤ 1000000000) (out : AOut) (h : (((numOk l = true) → AOut.ret (AV.lit (Value.int IntKind.u64 (↑(numU l) : Int))) = out) ∧ ((¬numOk l = true) → AOut.pan (AV.ifc 33 (int 10)) = out))) : CallC P G 79 [AV.ptr 0 0] (rdr l) out (rdr (numR l)) := by
  by_cases c1 : (numOk l = true)
  · have h := h.1 c1
    have e1 := h
    exact e1 ▸ ((show CallC P G 79 [AV.ptr 0 0] (rdr l) (AOut.ret (AV.lit (Value.int IntKind.u64 (↑(numU l) : Int)))) [AObj.box [AV.sl 1 false (bys (numR l))]] from callC_of [kl [1, 4, 5, 6, 7, 8, 9, 10, 11, 12, 13, 14, 15, 16, 17, 18, 19, 20, 21, 22, 23, 24, 25, 26, 27, 28, 29, 30, 31, 32, 33, 34, 35, 36, 37] 1 (show RunL P G none 1 (loopAt P 79 0) { env := slots 38 [(0, AV.ptr 0 0), (2, AV.lit (Value.int IntKind.u64 0)), (3, int 0)], H := [AObj.box [AV.sl 1 false (bys l)]] } AEx.ret { env := slots 38 [(2, AV.lit (Value.int IntKind.u64 (↑(numU l) : Int)))], H := [AObj.box [AV.sl 1 false (bys (numR l))]] } from (by have h0 := (@Go.Cdc.num_l (l) (by omega)); simp only [if_pos c1] at h0; exact h0))] (by kernel_rfl)))
  · have h := h.2 c1
    have e1 := h
    exact e1 ▸ ((show CallC P G 79 [AV.ptr 0 0] (rdr l) (AOut.pan (AV.ifc 33 (int 10))) [AObj.box [AV.sl 1 false (bys (numR l))]] from callC_of [kl [1, 4, 5, 6, 7, 8, 9, 10, 11, 12, 13, 14, 15, 16, 17, 18, 19, 20, 21, 22, 23, 24, 25, 26, 27, 28, 29, 30, 31, 32, 33, 34, 35, 36, 37] 1 (show RunL P G none 1 (loopAt P 79 0) { env := slots 38 [(0, AV.ptr 0 0), (2, AV.lit (Value.int IntKind.u64 0)), (3, int 0)], H := [AObj.box [AV.sl 1 false (bys l)]] } (AEx.pan (AV.ifc 33 (int 10))) { env := slots 38 [(2, AV.lit (Value.int IntKind.u64 (↑(numU l) : Int)))], H := [AObj.box [AV.sl 1 false (bys (numR l))]] } from (by have h0 := (@Go.Cdc.num_l (l) (by omega)); simp only [if_neg c1] at h0; exact h0))] (by kernel_rfl)))


theorem number_c (l : List UInt8) (hl : l.length ≤ 1000000000) : CallC P G 79 [.ptr 0 0] (rdr l) (if numOk l = true then .ret (u64 (numU l)) else .pan badErr) (rdr (numR l)) :=
  number_w l hl _ ⟨fun h => by rw [if_pos h], fun h => by rw [if_neg h]; rfl⟩

end Go.Cdc

/- CODEC, 6: numerals that are written. -/
namespace Go.Cdc
set_option maxRecDepth 100000
set_option linter.unusedSimpArgs false
set_option linter.unusedVariables false
open Go Go.Am Go.Proofs Go.Seat

theorem wrap_u64_int (n : Int) : IntKind.wrap .u64 n = n % 18446744073709551616 := by
  show (let m := n % (2 ^ 64 : Int); if (IntKind.u64.signed && m ≥ (2 ^ (64 - 1) : Int)) = true then m - (2 ^ 64 : Int) else m) = _
  simp [IntKind.signed]
/-- The unsigned form. -/
def uns (n : Int) : Nat := if 0 ≤ n then 2 * n.toNat else 2 * (-(n + 1)).toNat + 1

theorem uns_w_p1 (n : Int) : runF P G 88 [int n] [] [] =
    some (AOut.ret (AV.lit (Value.int IntKind.u64 (IntKind.wrap IntKind.u64 (↑(BitVec.toNat (BitVec.ofInt (IntKind.bits IntKind.u64) (IntKind.wrap IntKind.u64 (IntKind.wrap IntKind.u64 n * 2 ^ min (Int.toNat 1) (IntKind.bits IntKind.u64))) ^^^ BitVec.ofInt (IntKind.bits IntKind.u64) (IntKind.wrap IntKind.u64 (Int.fdiv n (2 ^ min (Int.toNat 63) (IntKind.bits IntKind.i64)))))) : Int)))), [], [(0 : Int) ≤ (1 : Int), (0 : Int) ≤ (63 : Int)]) := by kernel_rfl

theorem uns_w (n : Int) (v : Int) (h : (IntKind.wrap IntKind.u64 (↑(BitVec.toNat (BitVec.ofInt (IntKind.bits IntKind.u64) (IntKind.wrap IntKind.u64 (IntKind.wrap IntKind.u64 n * 2 ^ min (Int.toNat 1) (IntKind.bits IntKind.u64))) ^^^ BitVec.ofInt (IntKind.bits IntKind.u64) (IntKind.wrap IntKind.u64 (Int.fdiv n (2 ^ min (Int.toNat 63) (IntKind.bits IntKind.i64)))))) : Int) : Int) = (v)) : CallC P G 88 [int n] [] (AOut.ret (AV.lit (Value.int IntKind.u64 v))) [] := by
  have e1 := h
  exact CallC.out (callC_of_run _ (uns_w_p1 n) ⟨(by omega), (by omega), trivial⟩) (Sub.int_eq e1)


theorem runs_w_p1 (n : Int) : runF P G 97 [int n] [] [Orc.br true] =
    some (AOut.ret (AV.lit (Value.int IntKind.u64 (IntKind.wrap IntKind.u64 (2 * IntKind.wrap IntKind.u64 n)))), [], [decide (n ≥ (0 : Int)) = true]) := by kernel_rfl

theorem runs_w_p2 (n : Int) : runF P G 97 [int n] [] [Orc.br false, Orc.val (some 9) (int (n + 1)), Orc.val (some 10) (int (0 - (n + 1)))] =
    some (AOut.ret (AV.lit (Value.int IntKind.u64 (IntKind.wrap IntKind.u64 (IntKind.wrap IntKind.u64 (2 * IntKind.wrap IntKind.u64 (0 - (n + 1))) + 1)))), [], [decide (n ≥ (0 : Int)) = false, Am.Sub (int (IntKind.wrap IntKind.i64 (n + 1))) (int (n + 1)), Am.Sub (int (IntKind.wrap IntKind.i64 (0 - (n + 1)))) (int (0 - (n + 1)))]) := by kernel_rfl

theorem runs_w (n : Int) (hn : -9223372036854775808 ≤ n ∧ n < 9223372036854775808) (v : Int) (h : (((n ≥ (0 : Int)) → (IntKind.wrap IntKind.u64 (2 * IntKind.wrap IntKind.u64 n) : Int) = (v)) ∧ ((¬n ≥ (0 : Int)) → (IntKind.wrap IntKind.u64 (IntKind.wrap IntKind.u64 (2 * IntKind.wrap IntKind.u64 (0 - (n + 1))) + 1) : Int) = (v)))) : CallC P G 97 [int n] [] (AOut.ret (AV.lit (Value.int IntKind.u64 v))) [] := by
  by_cases c1 : (n ≥ (0 : Int))
  · have h := h.1 c1
    have e1 := h
    exact CallC.out (callC_of_run _ (runs_w_p1 n) ⟨(decide_eq_true c1), trivial⟩) (Sub.int_eq e1)
  · have h := h.2 c1
    have e1 := h
    exact CallC.out (callC_of_run _ (runs_w_p2 n) ⟨(decide_eq_false c1), Sub.of_wrap (by omega) (by omega) rfl, Sub.of_wrap (by omega) (by omega) rfl, trivial⟩) (Sub.int_eq e1)


theorem uns_lt {n : Int} (hn : -9223372036854775808 ≤ n ∧ n < 9223372036854775808) : uns n < 18446744073709551616 := by
  unfold uns; split <;> omega
theorem uns_eq {n : Int} (hn : -9223372036854775808 ≤ n ∧ n < 9223372036854775808) : IntKind.wrap IntKind.u64 (↑(BitVec.toNat (BitVec.ofInt (IntKind.bits IntKind.u64) (IntKind.wrap IntKind.u64 (IntKind.wrap IntKind.u64 n * 2 ^ min (Int.toNat 1) (IntKind.bits IntKind.u64))) ^^^ BitVec.ofInt (IntKind.bits IntKind.u64) (IntKind.wrap IntKind.u64 (Int.fdiv n (2 ^ min (Int.toNat 63) (IntKind.bits IntKind.i64)))))) : Int) = (uns n : Int) := by
  have e1 : min (Int.toNat 1) (IntKind.bits IntKind.u64) = 1 := by decide
  have e2 : min (Int.toNat 63) (IntKind.bits IntKind.i64) = 63 := by decide
  have e3 : (2 : Int) ^ 63 = 9223372036854775808 := by decide
  rw [e1, e2, e3]
  unfold uns
  by_cases h : 0 ≤ n
  · rw [if_pos h]
    have f1 : Int.fdiv n 9223372036854775808 = ((0 : Nat) : Int) := by rw [Int.fdiv_eq_ediv_of_nonneg _ (by decide)]; omega
    have f2 : IntKind.wrap IntKind.u64 n = ((n.toNat : Nat) : Int) := by rw [wrap_u64_int]; omega
    have f3 : IntKind.wrap IntKind.u64 (((n.toNat : Nat) : Int) * 2 ^ 1) = ((2 * n.toNat : Nat) : Int) := by rw [wrap_u64_int]; omega
    have f4 : IntKind.wrap IntKind.u64 ((0 : Nat) : Int) = ((0 : Nat) : Int) := by decide
    rw [f1, f2, f3, f4, BitVec.toNat_xor, ofInt_nat, ofInt_nat]
    have f5 : (2 * n.toNat) % 2 ^ IntKind.bits IntKind.u64 ^^^ 0 % 2 ^ IntKind.bits IntKind.u64 = 2 * n.toNat := by
      show (2 * n.toNat) % 2 ^ 64 ^^^ 0 % 2 ^ 64 = _
      rw [Nat.zero_mod, Nat.xor_zero, Nat.mod_eq_of_lt (by omega)]
    rw [f5, wrap64 (by omega)]
  · rw [if_neg h]
    have f1 : Int.fdiv n 9223372036854775808 = -1 := by rw [Int.fdiv_eq_ediv_of_nonneg _ (by decide)]; omega
    have f4 : IntKind.wrap IntKind.u64 (-1) = ((18446744073709551615 : Nat) : Int) := by decide
    have f3 : IntKind.wrap IntKind.u64 (IntKind.wrap IntKind.u64 n * 2 ^ 1) = ((18446744073709551614 - 2 * (-(n + 1)).toNat : Nat) : Int) := by rw [wrap_u64_int, wrap_u64_int]; omega
    rw [f1, f3, f4]
    have f6 : BitVec.ofInt 64 ((18446744073709551615 : Nat) : Int) = BitVec.allOnes 64 := by decide
    show IntKind.wrap IntKind.u64 ((BitVec.ofInt 64 ((18446744073709551614 - 2 * (-(n + 1)).toNat : Nat) : Int) ^^^ BitVec.ofInt 64 ((18446744073709551615 : Nat) : Int)).toNat : Int) = _
    rw [f6, BitVec.xor_allOnes, BitVec.toNat_not, ofInt_nat, Nat.mod_eq_of_lt (by omega)]
    have h7 : (2 : Nat) ^ 64 = 18446744073709551616 := by decide
    rw [h7, wrap64 (by omega)]
    omega
theorem uns_c (n : Int) (hn : -9223372036854775808 ≤ n ∧ n < 9223372036854775808) : CallC P G 88 [int n] [] (.ret (u64 (uns n))) [] := uns_w n _ (uns_eq hn)
theorem runs_c (n : Int) (hn : -9223372036854775808 ≤ n ∧ n < 9223372036854775808) : CallC P G 97 [int n] [] (.ret (u64 (uns n))) [] := by
  refine runs_w n hn _ ⟨fun h => ?_, fun h => ?_⟩
  · unfold uns; rw [if_pos h, wrap_u64_int, wrap_u64_int]; omega
  · unfold uns
    rw [if_neg h]
    have e1 : IntKind.wrap IntKind.i64 (n + 1) = n + 1 := Am.wrap_ok (by omega) (by omega)
    have e2 : IntKind.wrap IntKind.i64 (0 - (n + 1)) = 0 - (n + 1) := Am.wrap_ok (by omega) (by omega)
    simp only [e1, e2, wrap_u64_int]
    omega

/-! Digits -/
def preD : Nat → Nat → List UInt8
  | 0, _ => []
  | f + 1, u => if u < 128 then [] else UInt8.ofNat (u % 128 + 128) :: preD f (u / 128)
def lastD : Nat → Nat → Nat
  | 0, u => u
  | f + 1, u => if u < 128 then u else lastD f (u / 128)
/-- A number's numeral. -/
def num (u : Nat) : List UInt8 := preD 9 u ++ [UInt8.ofNat (lastD 9 u)]
theorem lastD_lt : ∀ (f u : Nat), u < 128 * 128 ^ f → lastD f u < 128
  | 0, u, h => by simpa [lastD] using h
  | f + 1, u, h => by
    simp only [lastD]
    split
    · assumption
    · exact lastD_lt f (u / 128) (by rw [Nat.pow_succ] at h; omega)
theorem preD_len : ∀ (f u : Nat), (preD f u).length ≤ f
  | 0, _ => Nat.le_refl _
  | f + 1, u => by
    simp only [preD]
    split
    · simp
    · have := preD_len f (u / 128); simp; omega
theorem num_len (u : Nat) : (num u).length ≤ 10 ∧ 1 ≤ (num u).length := by
  have := preD_len 9 u
  simp only [num, List.length_append, List.length_cons, List.length_nil]; omega

def nmSt (xs : List (List AV)) (g u : Nat) : St := { env := slots 20 [(0, .own 0 g 0 xs.length), (1, u64 u)], H := [.arr g 1 false xs] }

theorem nm_end_p1 (xs : List (List AV)) (g : Nat) (u : Nat) : loopExit P G none 1 (loopAt P 87 0) (nmSt xs g u) [Orc.br false] (others 20 [0, 1]) 1 =
    some (AEx.exit 0, { env := slots 20 [(0, AV.own 0 g 0 (List.length xs)), (1, AV.lit (Value.int IntKind.u64 (↑u : Int)))], H := [AObj.arr g 1 false xs] }, [decide ((↑u : Int) ≥ (128 : Int)) = false]) := by kernel_rfl

theorem nm_end (xs : List (List AV)) (g u : Nat) (hu : u < 128) (h : True) : RunL P G none 1 (loopAt P 87 0) (nmSt xs g u) (AEx.exit 0) { env := slots 20 [(0, AV.own 0 g 0 (List.length xs)), (1, u64 u)], H := [AObj.arr g 1 false xs] } := by
  have _ := h
  exact RunL.exit _ _ _ (nm_end_p1 xs g u) ⟨(decide_eq_false (by omega)), trivial⟩


theorem nm_step_p1 (xs : List (List AV)) (g : Nat) (u : Nat) : loopStep P G none 1 (loopAt P 87 0) (nmSt xs g u) [Orc.br true] (others 20 [0, 1]) 1 =
    some ({ env := slots 20 [(0, AV.own 0 (g + 1) 0 (List.length xs + 1)), (1, AV.lit (Value.int IntKind.u64 (Int.fdiv (↑u : Int) (2 ^ min (Int.toNat 7) (IntKind.bits IntKind.u64)))))], H := [AObj.arr (g + 1) 1 false (xs ++ [[AV.lit (Value.int IntKind.u8 (IntKind.wrap IntKind.u8 (↑(BitVec.toNat (BitVec.ofInt (IntKind.bits IntKind.u8) (IntKind.wrap IntKind.u8 (↑u : Int)) ||| BitVec.ofInt (IntKind.bits IntKind.u8) 128)) : Int)))]])] }, [decide ((↑u : Int) ≥ (128 : Int)) = true, g = g, List.length xs = List.length xs, (List.length xs + 1) * 1 ≤ 140737488355328, (0 : Int) ≤ (7 : Int)]) := by kernel_rfl

theorem nm_step (xs : List (List AV)) (g u : Nat) (hu : ¬ u < 128) (hl : xs.length ≤ 1000000000) (hids : ∀ x ∈ xs, AV.idsInL [] x = true) (ex : AEx) (s' : St) (h : RunL P G none 1 (loopAt P 87 0) { env := slots 20 [(0, AV.own 0 (g + 1) 0 (List.length xs + 1)), (1, AV.lit (Value.int IntKind.u64 (Int.fdiv (↑u : Int) (2 ^ min (Int.toNat 7) (IntKind.bits IntKind.u64)))))], H := [AObj.arr (g + 1) 1 false (xs ++ [[AV.lit (Value.int IntKind.u8 (IntKind.wrap IntKind.u8 (↑(BitVec.toNat (BitVec.ofInt (IntKind.bits IntKind.u8) (IntKind.wrap IntKind.u8 (↑u : Int)) ||| BitVec.ofInt (IntKind.bits IntKind.u8) 128)) : Int)))]])] } ex s') : RunL P G none 1 (loopAt P 87 0) (nmSt xs g u) ex s' := by
  exact RunL.next _ _ _ (nm_step_p1 xs g u) ⟨(decide_eq_true (by omega)), (rfl), (rfl), (by omega), (by omega), trivial⟩ h


theorem nm_w_p1 (xs : List (List AV)) (ys : List (List AV)) (g : Nat) (g' : Nat) (u : Nat) (v : Nat) : runF P G 87 [AV.own 0 g 0 (List.length xs), u64 u] [AObj.arr g 1 false xs] [Orc.loop [2, 3, 4, 5, 6, 7, 8, 9, 10, 11, 12, 13, 14, 15, 16, 17, 18, 19] 1 (AEx.exit 0) [AV.own 0 g' 0 (List.length ys), AV.lit (Value.int IntKind.u64 (↑v : Int)), AV.dead, AV.dead, AV.dead, AV.dead, AV.dead, AV.dead, AV.dead, AV.dead, AV.dead, AV.dead, AV.dead, AV.dead, AV.dead, AV.dead, AV.dead, AV.dead, AV.dead, AV.dead] [AObj.arr g' 1 false ys]] =
    some (AOut.ret (AV.own 0 (g' + 1) 0 (List.length ys + 1)), [AObj.arr (g' + 1) 1 false (ys ++ [[AV.lit (Value.int IntKind.u8 (IntKind.wrap IntKind.u8 (↑v : Int)))]])], [RunL P G none 1 (loopAt P 87 0) { env := slots 20 [(0, AV.own 0 g 0 (List.length xs)), (1, AV.lit (Value.int IntKind.u64 (↑u : Int)))], H := [AObj.arr g 1 false xs] } (AEx.exit 0) { env := slots 20 [(0, AV.own 0 g' 0 (List.length ys)), (1, AV.lit (Value.int IntKind.u64 (↑v : Int)))], H := [AObj.arr g' 1 false ys] }, g' = g', List.length ys = List.length ys, (List.length ys + 1) * 1 ≤ 140737488355328]) := by kernel_rfl

theorem nm_w (xs ys : List (List AV)) (g g' u v : Nat) (hl : ys.length ≤ 1000000000) (hL : RunL P G none 1 (loopAt P 87 0) (nmSt xs g u) (.exit 0) { env := slots 20 [(0, .own 0 g' 0 ys.length), (1, u64 v)], H := [.arr g' 1 false ys] }) (b : Int) (hb : IntKind.wrap .u8 (v : Int) = b) (h : [AObj.arr (g' + 1) 1 false (ys ++ [[AV.lit (Value.int IntKind.u8 (IntKind.wrap IntKind.u8 (↑v : Int)))]])] = [AObj.arr (g' + 1) 1 false (ys ++ [[AV.lit (Value.int IntKind.u8 b)]])]) : CallC P G 87 [AV.own 0 g 0 (List.length xs), u64 u] [AObj.arr g 1 false xs] (AOut.ret (AV.own 0 (g' + 1) 0 (List.length ys + 1))) [AObj.arr (g' + 1) 1 false (ys ++ [[AV.lit (Value.int IntKind.u8 b)]])] := by
  have eH := h
  exact CallC.heap (callC_of_run _ (nm_w_p1 xs ys g g' u v) ⟨(@hL ), (rfl), (rfl), (by omega), trivial⟩) eH


theorem digit_eq (u : Nat) : IntKind.wrap IntKind.u8 (↑(BitVec.toNat (BitVec.ofInt (IntKind.bits IntKind.u8) (IntKind.wrap IntKind.u8 (↑u : Int)) ||| BitVec.ofInt (IntKind.bits IntKind.u8) 128)) : Int) = ((UInt8.ofNat (u % 128 + 128)).toNat : Int) := by
  have e0 : (128 : Int) = ((128 : Nat) : Int) := rfl
  rw [wrap_u8 u, e0, BitVec.toNat_or, ofInt_nat, ofInt_nat]
  show IntKind.wrap IntKind.u8 (((u % 256 % 2 ^ 8) ||| (128 % 2 ^ 8) : Nat) : Int) = _
  have e1 : ∀ x : Nat, x < 256 → (x % 2 ^ 8) ||| (128 % 2 ^ 8) = x % 128 + 128 := fun x hx => by
    have a1 : x % 2 ^ 8 = x := Nat.mod_eq_of_lt hx
    have a2 : (128 % 2 ^ 8 : Nat) = 2 ^ 7 * 1 := rfl
    have a3 : 2 ^ 7 * 1 ||| x % 128 = 2 ^ 7 * 1 + x % 128 := (Nat.two_pow_add_eq_or_of_lt (show x % 128 < 2 ^ 7 from Nat.mod_lt _ (by decide)) 1).symm
    rw [a1, a2]
    rcases Nat.lt_or_ge x 128 with h | h
    · have a4 : x = x % 128 := (Nat.mod_eq_of_lt h).symm
      rw [a4, Nat.or_comm, a3, Nat.mod_mod]
      omega
    · have a4 : x = 2 ^ 7 * 1 ||| x % 128 := by rw [a3]; omega
      have a5 : x ||| 2 ^ 7 * 1 = 2 ^ 7 * 1 ||| x % 128 := by
        conv => lhs; rw [a4]
        rw [Nat.or_comm, ← Nat.or_assoc, Nat.or_self]
      rw [a5, a3]
      omega
  have := e1 (u % 256) (Nat.mod_lt _ (by decide))
  rw [this, show u % 256 % 128 = u % 128 by omega, wrap8 (by omega), UInt8.toNat_ofNat']
  congr 1
  exact (Nat.mod_eq_of_lt (by omega)).symm
theorem byte_last {v : Nat} (h : v < 128) : IntKind.wrap .u8 (v : Int) = ((UInt8.ofNat v).toNat : Int) := by
  rw [wrap8 (by omega), UInt8.toNat_ofNat']
  congr 1
  exact (Nat.mod_eq_of_lt (by omega)).symm
theorem shr7 (u : Nat) : Int.fdiv (↑u : Int) (2 ^ min (Int.toNat 7) (IntKind.bits IntKind.u64)) = ((u / 128 : Nat) : Int) := by
  show Int.fdiv (u : Int) (2 ^ 7) = _
  rw [show (2 : Int) ^ 7 = 128 from by decide, Int.fdiv_eq_ediv_of_nonneg _ (by decide)]
  omega
theorem nm_loop : ∀ (f u g : Nat) (xs : List (List AV)), u < 128 * 128 ^ f → xs.length + f ≤ 1000000000 → (∀ x ∈ xs, AV.idsInL [] x = true) →
    RunL P G none 1 (loopAt P 87 0) (nmSt xs g u) (.exit 0) { env := slots 20 [(0, .own 0 (g + (preD f u).length) 0 (xs ++ bys (preD f u)).length), (1, u64 (lastD f u))], H := [.arr (g + (preD f u).length) 1 false (xs ++ bys (preD f u))] }
  | 0, u, g, xs, hu, hl, hx => by
    have e : xs ++ bys (preD 0 u) = xs := by simp [preD, bys]
    rw [e]
    exact nm_end xs g u (by simpa using hu) trivial
  | f + 1, u, g, xs, hu, hl, hx => by
    by_cases h : u < 128
    · have e : xs ++ bys (preD (f + 1) u) = xs := by simp [preD, bys, h]
      rw [e]
      simp only [preD, lastD, h, if_true]
      exact nm_end xs g u h trivial
    · refine nm_step xs g u h (by omega) hx _ _ ?_
      have ih := nm_loop f (u / 128) (g + 1) (xs ++ [byt1 (UInt8.ofNat (u % 128 + 128))]) (by rw [Nat.pow_succ] at hu; omega) (by simp; omega) (by
        intro x hx'
        rcases List.mem_append.1 hx' with h' | h'
        · exact hx x h'
        · rw [List.mem_singleton.1 h']; rfl)
      simp only [preD, lastD, h, if_false]
      rw [digit_eq, shr7]
      have e2 : xs ++ bys (UInt8.ofNat (u % 128 + 128) :: preD f (u / 128)) = (xs ++ [byt1 (UInt8.ofNat (u % 128 + 128))]) ++ bys (preD f (u / 128)) := by simp [bys]
      have e3 : g + (UInt8.ofNat (u % 128 + 128) :: preD f (u / 128)).length = g + 1 + (preD f (u / 128)).length := by simp; omega
      rw [e2, e3]
      unfold nmSt at ih
      rw [show (xs ++ [byt1 (UInt8.ofNat (u % 128 + 128))]).length = xs.length + 1 by simp] at ih
      exact ih
theorem numeral_c (xs : List (List AV)) (g u : Nat) (hu : u < 18446744073709551616) (hl : xs.length ≤ 100000000) (hx : ∀ x ∈ xs, AV.idsInL [] x = true) :
    CallC P G 87 [.own 0 g 0 xs.length, u64 u] [.arr g 1 false xs] (.ret (.own 0 (g + (num u).length) 0 (xs.length + (num u).length))) [.arr (g + (num u).length) 1 false (xs ++ bys (num u))] := by
  have hu' : u < 128 * 128 ^ 9 := by
    have : (128 : Nat) * 128 ^ 9 = 1180591620717411303424 := by decide
    omega
  have hp := preD_len 9 u
  have := nm_w xs (xs ++ bys (preD 9 u)) g (g + (preD 9 u).length) u (lastD 9 u) (by simp [bys_length]; omega) (nm_loop 9 u g xs hu' (by omega) hx) _ (byte_last (lastD_lt 9 u hu')) (by rw [byte_last (lastD_lt 9 u hu')])
  have e1 : g + (num u).length = g + (preD 9 u).length + 1 := by simp [num]; omega
  have e2 : xs ++ bys (num u) = (xs ++ bys (preD 9 u)) ++ [byt1 (UInt8.ofNat (lastD 9 u))] := by simp [num, bys]
  have e3 : xs.length + (num u).length = (xs ++ bys (preD 9 u)).length + 1 := by simp [num, bys_length]; omega
  rw [e1, e2, e3]
  exact this

/-! The reference's numerals -/
theorem rnm_0_p1 (u : Nat) : runF P G 96 [u64 u] [] [Orc.br true] =
    some (AOut.ret (AV.sl 1 true [[AV.lit (Value.int IntKind.u8 (IntKind.wrap IntKind.u8 (↑u : Int)))]]), [], [decide ((↑u : Int) < (128 : Int)) = true]) := by kernel_rfl

theorem rnm_0 (u : Nat) (hu : u < 128) (b : Int) (hb : IntKind.wrap .u8 (u : Int) = b) (h : ([[AV.lit (Value.int IntKind.u8 (IntKind.wrap IntKind.u8 (↑u : Int)))]]) = ([[AV.lit (Value.int IntKind.u8 b)]])) : CallC P G 96 [u64 u] [] (AOut.ret (AV.sl 1 false [[AV.lit (Value.int IntKind.u8 b)]])) [] := by
  have e1 := h
  exact CallC.out (callC_of_run _ (rnm_0_p1 u) ⟨(decide_eq_true (by omega)), trivial⟩) (Sub.list_eq e1)


theorem tdiv_128 (u : Nat) : Int.tdiv (u : Int) 128 = ((u / 128 : Nat) : Int) := rfl
theorem tmod_128 (u : Nat) : Int.tmod (u : Int) 128 = ((u % 128 : Nat) : Int) := rfl
theorem rnm_1_p1 (u : Nat) (r : List UInt8) : runF P G 96 [u64 u] [] [Orc.br false, Orc.call [] (AOut.ret (byt r)) [], Orc.frz ([AV.lit (Value.int IntKind.u8 (IntKind.wrap IntKind.u8 (IntKind.wrap IntKind.u64 ((↑(u % 128) : Int) + 128))))] :: bys r)] =
    some (AOut.ret (AV.sl 1 false ([AV.lit (Value.int IntKind.u8 (IntKind.wrap IntKind.u8 (IntKind.wrap IntKind.u64 ((↑(u % 128) : Int) + 128))))] :: bys r)), [], [decide ((↑u : Int) < (128 : Int)) = false, (128 : Int) ≠ (0 : Int), (128 : Int) ≠ (0 : Int), CallC P G 96 [AV.lit (Value.int IntKind.u64 (IntKind.wrap IntKind.u64 (Int.tdiv (↑u : Int) 128)))] [] (AOut.ret (AV.sl 1 false (bys r))) [], bys r ≠ [], (1 + List.length (bys r)) * 1 ≤ 140737488355328, 0 = 0, List.take (1 + List.length (bys r)) ([AV.lit (Value.int IntKind.u8 (IntKind.wrap IntKind.u8 (IntKind.wrap IntKind.u64 (Int.tmod (↑u : Int) 128 + 128))))] :: List.append._f [] PUnit.unit (bys r)) = [AV.lit (Value.int IntKind.u8 (IntKind.wrap IntKind.u8 (IntKind.wrap IntKind.u64 ((↑(u % 128) : Int) + 128))))] :: bys r, List.length ([AV.lit (Value.int IntKind.u8 (IntKind.wrap IntKind.u8 (IntKind.wrap IntKind.u64 ((↑(u % 128) : Int) + 128))))] :: bys r) = 1 + List.length (bys r), ∀ (c : List AV), c ∈ [AV.lit (Value.int IntKind.u8 (IntKind.wrap IntKind.u8 (IntKind.wrap IntKind.u64 ((↑(u % 128) : Int) + 128))))] :: bys r → List.all c AV.pureB = true]) := by kernel_rfl

theorem rnm_1 (u : Nat) (hu : ¬ u < 128) (r : List UInt8) (hr : r.length ≤ 1000) (hr0 : ¬ bys r = []) (hv : CallC P G 96 [u64 (u / 128 % 18446744073709551616)] [] (.ret (byt r)) []) (b : Int) (h : ((List.take (1 + List.length (bys r)) ([AV.lit (Value.int IntKind.u8 (IntKind.wrap IntKind.u8 (IntKind.wrap IntKind.u64 ((↑(u % 128) : Int) + 128))))] :: bys r) = [AV.lit (Value.int IntKind.u8 (IntKind.wrap IntKind.u8 (IntKind.wrap IntKind.u64 ((↑(u % 128) : Int) + 128))))] :: bys r) ∧ ((List.length ([AV.lit (Value.int IntKind.u8 (IntKind.wrap IntKind.u8 (IntKind.wrap IntKind.u64 ((↑(u % 128) : Int) + 128))))] :: bys r) = 1 + List.length (bys r)) ∧ ((∀ (c : List AV), c ∈ [AV.lit (Value.int IntKind.u8 (IntKind.wrap IntKind.u8 (IntKind.wrap IntKind.u64 ((↑(u % 128) : Int) + 128))))] :: bys r → List.all c AV.pureB = true) ∧ ([AV.lit (Value.int IntKind.u8 (IntKind.wrap IntKind.u8 (IntKind.wrap IntKind.u64 ((↑(u % 128) : Int) + 128))))] :: bys r) = ([AV.lit (Value.int IntKind.u8 b)] :: bys r))))) : CallC P G 96 [u64 u] [] (AOut.ret (AV.sl 1 false ([AV.lit (Value.int IntKind.u8 b)] :: bys r))) [] := by
  obtain ⟨o2, h⟩ := h
  obtain ⟨o3, h⟩ := h
  obtain ⟨o4, h⟩ := h
  have e1 := h
  exact CallC.out (callC_of_run _ (rnm_1_p1 u r) ⟨(decide_eq_false (by omega)), (by omega), (by omega), (@hv ), hr0, (by rw [Go.Cdc.bys_length]; omega), (rfl), o2, o3, o4, trivial⟩) (Sub.list_eq e1)


/-- Digits, the reference's way. -/
def numN : Nat → Nat → List UInt8
  | 0, u => [UInt8.ofNat u]
  | f + 1, u => if u < 128 then [UInt8.ofNat u] else UInt8.ofNat (u % 128 + 128) :: numN f (u / 128)
theorem numN_eq : ∀ (f u : Nat), numN f u = preD f u ++ [UInt8.ofNat (lastD f u)]
  | 0, u => rfl
  | f + 1, u => by
    simp only [numN, preD, lastD]
    split
    · rfl
    · rw [numN_eq f (u / 128)]; rfl

theorem rdigit_eq (u : Nat) : IntKind.wrap IntKind.u8 (IntKind.wrap IntKind.u64 ((↑(u % 128) : Int) + 128)) = ((UInt8.ofNat (u % 128 + 128)).toNat : Int) := by
  have e1 : ((↑(u % 128) : Int) + 128) = ((u % 128 + 128 : Nat) : Int) := by omega
  rw [e1, wrap64 (by omega), wrap8 (by omega), UInt8.toNat_ofNat']
  congr 1
  exact (Nat.mod_eq_of_lt (by omega)).symm
theorem rnm_loop : ∀ (f u : Nat), f ≤ 9 → u < 18446744073709551616 → u < 128 * 128 ^ f → CallC P G 96 [u64 u] [] (.ret (byt (numN f u))) []
  | 0, u, hf, hu, h => rnm_0 u (by simpa using h) _ (byte_last (by simpa using h)) (by rw [byte_last (by simpa using h)])
  | f + 1, u, hf, hu, h => by
    simp only [numN]
    by_cases hc : u < 128
    · rw [if_pos hc]
      exact rnm_0 u hc _ (byte_last hc) (by rw [byte_last hc])
    · rw [if_neg hc]
      have ih := rnm_loop f (u / 128) (by omega) (by omega) (by rw [Nat.pow_succ] at h; omega)
      have hl : (numN f (u / 128)).length ≤ 10 ∧ 1 ≤ (numN f (u / 128)).length := by
        rw [numN_eq]
        have := preD_len f (u / 128)
        simp; omega
      refine rnm_1 u hc (numN f (u / 128)) (by omega) (fun e => ?_) (by rw [Nat.mod_eq_of_lt (by omega)]; exact ih) _ ⟨?_, ?_, ?_, ?_⟩
      · have := congrArg List.length e
        rw [bys_length] at this
        simp only [List.length_nil] at this
        omega
      · rw [List.take_of_length_le (by simp; omega)]
      · simp; omega
      · intro c hc'
        rcases List.mem_cons.1 hc' with rfl | h'
        · rfl
        · exact bys_pure _ c h'
      · rw [rdigit_eq]
theorem rnumeral_c (u : Nat) (hu : u < 18446744073709551616) : CallC P G 96 [u64 u] [] (.ret (byt (num u))) [] := by
  have := rnm_loop 9 u (by omega) hu (by
    have : (128 : Nat) * 128 ^ 9 = 1180591620717411303424 := by decide
    omega)
  rw [numN_eq] at this
  exact this

end Go.Cdc

/- CODEC, 5: Check in both packages; few parts. -/
namespace Go.Cdc
set_option maxRecDepth 100000
set_option linter.unusedSimpArgs false
set_option linter.unusedVariables false
open Go Go.Am Go.Proofs Go.Seat

def chkE (v : CV) : Int := if wf v = true then (if 16 < dp v then 2 else 0) else 1

theorem check_w (v : CV) (d : Nat) (b : Bool) (e : Int) (hv : CallC P G 85 [val v] [] (.ret (.tup [int (if b = true then (d : Int) else 0), bool b])) []) (h : ((((b) = true) → ((((if b = true then (↑d : Int) else 0) > (16 : Int)) → (2 : Int) = (e)) ∧ ((¬(if b = true then (↑d : Int) else 0) > (16 : Int)) → (0 : Int) = (e)))) ∧ (((b) = false) → (1 : Int) = (e)))) : CallC P G 62 [val v] [] (AOut.ret (int e)) [] := by
  have hz0 := (@hv )
  rcases Bool.eq_false_or_eq_true ((b)) with c1 | c1
  · have h := h.1 c1
    have hz1 : (!b) = false := (congrArg Bool.not (c1))
    by_cases c2 : ((if b = true then (↑d : Int) else 0) > (16 : Int))
    · have h := h.1 c2
      have e1 := h
      exact callC_out (Sub.int_eq e1) [kc [] hz0, kf hz1, kt (decide_eq_true c2)] (by kernel_rfl)
    · have h := h.2 c2
      have e1 := h
      exact callC_out (Sub.int_eq e1) [kc [] hz0, kf hz1, kf (decide_eq_false c2)] (by kernel_rfl)
  · have h := h.2 c1
    have e1 := h
    exact callC_out (Sub.int_eq e1) [kc [] hz0, kt (show (!b) = true from (congrArg Bool.not (c1)))] (by kernel_rfl)


theorem check_c (v : CV) (hok : Okv v) (hd : dp v ≤ 1000001) : CallC P G 62 [val v] [] (.ret (int (chkE v))) [] := by
  have hf := formed_c v hok hd
  unfold FormedC at hf
  refine check_w v (dp v) (wf v) _ hf ⟨fun h => ⟨fun h2 => ?_, fun h2 => ?_⟩, fun h => ?_⟩
  · rw [if_pos h] at h2; simp only [chkE, h, if_true]; rw [if_pos (by omega)]
  · rw [if_pos h] at h2; simp only [chkE, h, if_true]; rw [if_neg (by omega)]
  · simp [chkE, h]

theorem rf1_w (n : Int) (s : ByteArray) (l : List CV) (b : Bool) (h : (((s = { data := #[] }) → ((↑(List.length l) : Int) == 0) = (b)) ∧ ((¬s = { data := #[] }) → (false) = (b)))) : CallC P G 94 [vmk 1 n s l] [] (AOut.ret (Am.bool b)) [] := by
  have hz0 : Am.Sub (Am.bool (ByteArray.toList s == ByteArray.toList { data := #[] })) (Am.bool (decide (s = { data := #[] }))) := (Sub.of_eq (by simp only [Go.Cdc.str_eq]))
  by_cases c1 : (s = { data := #[] })
  · have h := h.1 c1
    have e1 := h
    exact callC_out (Sub.bool_eq e1) [kt (Eq.refl true), kv 10 hz0, kt (decide_eq_true c1), kv 14 (show Am.Sub (int (↑(List.length (encL l)) : Int)) (int (↑(List.length l) : Int)) from (Sub.of_eq (by simp only [Go.Cdc.encL_length])))] (by kernel_rfl)
  · have h := h.2 c1
    have e1 := h
    exact callC_out (Sub.bool_eq e1) [kt (Eq.refl true), kv 10 hz0, kf (decide_eq_false c1)] (by kernel_rfl)


theorem rf2_w (n : Int) (s : ByteArray) (l : List CV) (b : Bool) (h : (((n = (0 : Int)) → ((↑(List.length l) : Int) == 0) = (b)) ∧ ((¬n = (0 : Int)) → (false) = (b)))) : CallC P G 94 [vmk 2 n s l] [] (AOut.ret (Am.bool b)) [] := by
  by_cases c1 : (n = (0 : Int))
  · have h := h.1 c1
    have e1 := h
    exact callC_out (Sub.bool_eq e1) [kf (Eq.refl false), kt (Eq.refl true), kt (beq_iff_eq.2 c1), kv 25 (show Am.Sub (int (↑(List.length (encL l)) : Int)) (int (↑(List.length l) : Int)) from (Sub.of_eq (by simp only [Go.Cdc.encL_length])))] (by kernel_rfl)
  · have h := h.2 c1
    have e1 := h
    exact callC_out (Sub.bool_eq e1) [kf (Eq.refl false), kt (Eq.refl true), kf (beq_eq_false_iff_ne.2 c1)] (by kernel_rfl)


theorem rfx_w (k n : Int) (s : ByteArray) (l : List CV) (h1 : k ≠ 1) (h2 : k ≠ 2) (h3 : k ≠ 3) (h : True) : CallC P G 94 [vmk k n s l] [] (AOut.ret (Am.bool false)) [] := by
  have _ := h
  exact callC_of [kf (show (k == 1) = false from (decide_eq_false (by omega))), kf (show (k == 2) = false from (decide_eq_false (by omega))), kf (show (k == 3) = false from (decide_eq_false (by omega)))] (by kernel_rfl)


def rfSt (n : Int) (s : ByteArray) (l : List CV) (i : Nat) : St := { env := slots 52 [(1, .ptr 0 0), (2, bool false), (3, int i)], H := [.box [int 3, int n, str s, .sl 4 false (encL l)]] }

theorem rf_end (n : Int) (s : ByteArray) (l : List CV) (i : Nat) (hi : l.length ≤ i) (h : True) : RunL P G none 0 (loopAt P 94 0) (rfSt n s l i) (AEx.exit 1) { env := slots 52 [(1, AV.ptr 0 0), (2, Am.bool false)], H := [AObj.box [int 3, int n, str s, AV.sl 4 false (encL l)]] } := by
  have _ := h
  exact loop_exit [kv 33 (show Am.Sub (int (↑(List.length (encL l)) : Int)) (int (↑(List.length l) : Int)) from (Sub.of_eq (by simp only [Go.Cdc.encL_length]))), kf (show decide ((↑i : Int) < (↑(List.length l) : Int)) = false from (decide_eq_false (by omega)))] (others 52 [1, 2]) 1 (by kernel_rfl)


theorem rf_step (n : Int) (s : ByteArray) (l : List CV) (i : Nat) (x : CV) (hi : i < l.length) (hl : l.length ≤ 9223372036854775807) (hx : l[i]? = some x) (hv : CallC P G 94 [val x] [] (.ret (bool (wf x))) []) (ex : AEx) (h : ((((wf x) = true) → RunL P G none 0 (loopAt P 94 0) { env := slots 52 [(1, AV.ptr 0 0), (2, Am.bool false), (3, int (↑(i + 1) : Int))], H := [AObj.box [int 3, int n, str s, AV.sl 4 false (encL l)]] } ex { env := slots 52 [(1, AV.ptr 0 0), (2, Am.bool false)], H := [AObj.box [int 3, int n, str s, AV.sl 4 false (encL l)]] }) ∧ (((wf x) = false) → AEx.ret = ex))) : RunL P G none 0 (loopAt P 94 0) (rfSt n s l i) ex { env := slots 52 [(1, AV.ptr 0 0), (2, Am.bool false)], H := [AObj.box [int 3, int n, str s, AV.sl 4 false (encL l)]] } := by
  have hz0 : Am.Sub (int (↑(List.length (encL l)) : Int)) (int (↑(List.length l) : Int)) := (Sub.of_eq (by simp only [Go.Cdc.encL_length]))
  have hz1 : decide ((↑i : Int) < (↑(List.length l) : Int)) = true := (decide_eq_true (by omega))
  have hz2 : (0 : Int) ≤ (↑i : Int) ∧ (encL l)[Int.toNat (↑i : Int)]? = some (enc x) := (by rw [Go.Cdc.encL_map]; exact el_nat hx)
  have hz3 := (@hv )
  rcases Bool.eq_false_or_eq_true ((wf x)) with c2 | c2
  · have h := h.1 c2
    exact loop_next [kv 33 hz0, kt hz1, ko (Orc.elem (enc x)), kp hz2, kc [] hz3, kf (show (!wf x) = false from (congrArg Bool.not (c2))), kv 36 (show Am.Sub (int (IntKind.wrap IntKind.i64 ((↑i : Int) + 1))) (int (↑(i + 1) : Int)) from (Sub.of_wrap (by omega) (by omega) (by omega)))] (others 52 [1, 2, 3]) 1 h (by kernel_rfl)
  · have h := h.2 c2
    have eX := h
    exact RunL.to ((show RunL P G none 0 (loopAt P 94 0) (rfSt n s l i) AEx.ret { env := slots 52 [(1, AV.ptr 0 0), (2, Am.bool false)], H := [AObj.box [int 3, int n, str s, AV.sl 4 false (encL l)]] } from loop_exit [kv 33 hz0, kt hz1, ko (Orc.elem (enc x)), kp hz2, kc [] hz3, kt (show (!wf x) = true from (congrArg Bool.not (c2)))] (others 52 [1, 2]) 1 (by kernel_rfl))) eX (SubS.of_eq rfl)


theorem rf3_w (n : Int) (s : ByteArray) (l : List CV) (b : Bool) (hL : RunL P G none 0 (loopAt P 94 0) (rfSt n s l 0) (if wfL l = true then .exit 1 else .ret) { env := slots 52 [(1, .ptr 0 0), (2, bool false)], H := [.box [int 3, int n, str s, .sl 4 false (encL l)]] }) (h : (((wfL l = true) → (((n = (0 : Int)) → (decide (s = { data := #[] })) = (b)) ∧ ((¬n = (0 : Int)) → (false) = (b)))) ∧ ((¬wfL l = true) → (false) = (b)))) : CallC P G 94 [vmk 3 n s l] [] (AOut.ret (Am.bool b)) [] := by
  by_cases c1 : (wfL l = true)
  · have h := h.1 c1
    have hz0 : RunL P G none 0 (loopAt P 94 0) { env := slots 52 [(1, AV.ptr 0 0), (2, Am.bool false), (3, int 0)], H := [AObj.box [int 3, int n, str s, AV.sl 4 false (encL l)]] } (AEx.exit 1) { env := slots 52 [(1, AV.ptr 0 0), (2, Am.bool false)], H := [AObj.box [int 3, int n, str s, AV.sl 4 false (encL l)]] } := (by have h0 := (@hL ); simp only [if_pos c1] at h0; exact h0)
    by_cases c2 : (n = (0 : Int))
    · have h := h.1 c2
      have e1 := h
      exact callC_out (Sub.bool_eq e1) [kf (Eq.refl false), kf (Eq.refl false), kt (Eq.refl true), kl [0, 4, 5, 6, 7, 8, 9, 10, 11, 12, 13, 14, 15, 16, 17, 18, 19, 20, 21, 22, 23, 24, 25, 26, 27, 28, 29, 30, 31, 32, 33, 34, 35, 36, 37, 38, 39, 40, 41, 42, 43, 44, 45, 46, 47, 48, 49, 50, 51] 1 hz0, kt (beq_iff_eq.2 c2), kv 50 (show Am.Sub (Am.bool (ByteArray.toList s == ByteArray.toList { data := #[] })) (Am.bool (decide (s = { data := #[] }))) from (Sub.of_eq (by simp only [Go.Cdc.str_eq])))] (by kernel_rfl)
    · have h := h.2 c2
      have e1 := h
      exact callC_out (Sub.bool_eq e1) [kf (Eq.refl false), kf (Eq.refl false), kt (Eq.refl true), kl [0, 4, 5, 6, 7, 8, 9, 10, 11, 12, 13, 14, 15, 16, 17, 18, 19, 20, 21, 22, 23, 24, 25, 26, 27, 28, 29, 30, 31, 32, 33, 34, 35, 36, 37, 38, 39, 40, 41, 42, 43, 44, 45, 46, 47, 48, 49, 50, 51] 1 hz0, kf (beq_eq_false_iff_ne.2 c2)] (by kernel_rfl)
  · have h := h.2 c1
    have e1 := h
    exact callC_out (Sub.bool_eq e1) [kf (Eq.refl false), kf (Eq.refl false), kt (Eq.refl true), kl [0, 4, 5, 6, 7, 8, 9, 10, 11, 12, 13, 14, 15, 16, 17, 18, 19, 20, 21, 22, 23, 24, 25, 26, 27, 28, 29, 30, 31, 32, 33, 34, 35, 36, 37, 38, 39, 40, 41, 42, 43, 44, 45, 46, 47, 48, 49, 50, 51] 1 (show RunL P G none 0 (loopAt P 94 0) { env := slots 52 [(1, AV.ptr 0 0), (2, Am.bool false), (3, int 0)], H := [AObj.box [int 3, int n, str s, AV.sl 4 false (encL l)]] } AEx.ret { env := slots 52 [(1, AV.ptr 0 0), (2, Am.bool false)], H := [AObj.box [int 3, int n, str s, AV.sl 4 false (encL l)]] } from (by have h0 := (@hL ); simp only [if_neg c1] at h0; exact h0))] (by kernel_rfl)


theorem rdx_w (k n : Int) (s : ByteArray) (l : List CV) (h3 : k ≠ 3) (h : True) : CallC P G 95 [vmk k n s l] [] (AOut.ret (int 0)) [] := by
  have _ := h
  exact callC_of [kt (show (k != 3) = true from (congrArg Bool.not (decide_eq_false (by omega))))] (by kernel_rfl)


def rdSt (n : Int) (s : ByteArray) (l : List CV) (d : Int) (i : Nat) : St := { env := slots 25 [(1, .ptr 0 0), (3, int d), (4, int i)], H := [.box [int 3, int n, str s, .sl 4 false (encL l)]] }

theorem rd_end (n : Int) (s : ByteArray) (l : List CV) (d : Int) (i : Nat) (hi : l.length ≤ i) (h : True) : RunL P G none 0 (loopAt P 95 0) (rdSt n s l d i) (AEx.exit 0) { env := slots 25 [(3, int d)], H := [AObj.box [int 3, int n, str s, AV.sl 4 false (encL l)]] } := by
  have _ := h
  exact loop_exit [kv 11 (show Am.Sub (int (↑(List.length (encL l)) : Int)) (int (↑(List.length l) : Int)) from (Sub.of_eq (by simp only [Go.Cdc.encL_length]))), kf (show decide ((↑i : Int) < (↑(List.length l) : Int)) = false from (decide_eq_false (by omega)))] (others 25 [3]) 1 (by kernel_rfl)


theorem rd_step (n : Int) (s : ByteArray) (l : List CV) (d i : Nat) (x : CV) (hi : i < l.length) (hl : l.length ≤ 9223372036854775807) (hx : l[i]? = some x) (hv : CallC P G 95 [val x] [] (.ret (int (dp x : Int))) []) (ex : AEx) (s' : St) (h : RunL P G none 0 (loopAt P 95 0) { env := slots 25 [(1, AV.ptr 0 0), (3, int (if (↑(dp x) : Int) > (↑d : Int) then (↑(dp x) : Int) else (↑d : Int))), (4, int (↑(i + 1) : Int))], H := [AObj.box [int 3, int n, str s, AV.sl 4 false (encL l)]] } ex s') : RunL P G none 0 (loopAt P 95 0) (rdSt n s l (↑d : Int) i) ex s' := by
  exact loop_next [kv 11 (show Am.Sub (int (↑(List.length (encL l)) : Int)) (int (↑(List.length l) : Int)) from (Sub.of_eq (by simp only [Go.Cdc.encL_length]))), kt (show decide ((↑i : Int) < (↑(List.length l) : Int)) = true from (decide_eq_true (by omega))), ko (Orc.elem (enc x)), kp (show (0 : Int) ≤ (↑i : Int) ∧ (encL l)[Int.toNat (↑i : Int)]? = some (enc x) from (by rw [Go.Cdc.encL_map]; exact el_nat hx)), kc [] (@hv ), kv 14 (show Am.Sub (int (IntKind.wrap IntKind.i64 ((↑i : Int) + 1))) (int (↑(i + 1) : Int)) from (Sub.of_wrap (by omega) (by omega) (by omega)))] (others 25 [1, 3, 4]) 1 h (by kernel_rfl)


theorem rd3_w (n : Int) (s : ByteArray) (l : List CV) (a : Int) (hd : dpL l ≤ 1000001) (hL : RunL P G none 0 (loopAt P 95 0) (rdSt n s l 0 0) (.exit 0) { env := slots 25 [(3, int (dpL l : Int))], H := [.box [int 3, int n, str s, .sl 4 false (encL l)]] }) (h : ((↑(dpL l + 1) : Int) : Int) = (a)) : CallC P G 95 [vmk 3 n s l] [] (AOut.ret (int a)) [] := by
  have e1 := h
  exact callC_out (Sub.int_eq e1) [kf (Eq.refl false), kl [0, 2, 5, 6, 7, 8, 9, 10, 11, 12, 13, 14, 15, 16, 17, 18, 19, 20, 21, 22, 23, 24] 1 (@hL ), kv 24 (show Am.Sub (int (IntKind.wrap IntKind.i64 ((↑(dpL l) : Int) + 1))) (int (↑(dpL l + 1) : Int)) from (Sub.of_wrap (by omega) (by omega) (by omega)))] (by kernel_rfl)


theorem rcheck_w (v : CV) (e : Int) (hd : dp v ≤ 1000001) (hf : CallC P G 94 [val v] [] (.ret (bool (wf v))) []) (hv : CallC P G 95 [val v] [] (.ret (int (dp v : Int))) []) (h : ((((wf v) = true) → ((((↑(dp v) : Int) > (16 : Int)) → (2 : Int) = (e)) ∧ ((¬(↑(dp v) : Int) > (16 : Int)) → (0 : Int) = (e)))) ∧ (((wf v) = false) → (1 : Int) = (e)))) : CallC P G 75 [val v] [] (AOut.ret (int e)) [] := by
  have hz0 := (@hf )
  have hz2 := (@hv )
  rcases Bool.eq_false_or_eq_true ((wf v)) with c1 | c1
  · have h := h.1 c1
    have hz1 : (!wf v) = false := (congrArg Bool.not (c1))
    by_cases c2 : ((↑(dp v) : Int) > (16 : Int))
    · have h := h.1 c2
      have e1 := h
      exact callC_out (Sub.int_eq e1) [kc [] hz0, kf hz1, kc [] hz2, kt (decide_eq_true c2)] (by kernel_rfl)
    · have h := h.2 c2
      have e1 := h
      exact callC_out (Sub.int_eq e1) [kc [] hz0, kf hz1, kc [] hz2, kf (decide_eq_false c2)] (by kernel_rfl)
  · have h := h.2 c1
    have e1 := h
    exact callC_out (Sub.int_eq e1) [kc [] hz0, kt (show (!wf v) = true from (congrArg Bool.not (c1)))] (by kernel_rfl)


theorem tdiv_200 (n : Nat) : Int.tdiv (n : Int) 200 = ((n / 200 : Nat) : Int) := rfl
mutual
/-- The parts of a value, as the reference counts them. -/
def cnt (d : Int) : CV → Nat
  | .mk _ _ s l => if d < 0 ∨ 150 < l.length then 1000 else cntL d l (1 + s.size / 200)
def cntL (d : Int) : List CV → Nat → Nat
  | [], m => m
  | x :: l, m => if m ≤ 1000 then cntL d l (m + cnt (d - 1) x) else m
end
def cnSt (k n : Int) (s : ByteArray) (l : List CV) (dep : Int) (m i : Nat) : St := { env := slots 42 [(1, int dep), (2, .ptr 0 0), (5, int m), (6, int i)], H := [.box [int k, int n, str s, .sl 4 false (encL l)]] }

def fwSt (v : CV) (i : Nat) : St := { env := slots 15 [(2, bool false), (5, .sl 4 false [enc v]), (6, int 1), (7, int i)], H := [] }

/-! The contracts -/
theorem rf_loop (n : Int) (s : ByteArray) (l : List CV) (hl : l.length ≤ 9223372036854775807) (hv : ∀ x ∈ l, CallC P G 94 [val x] [] (.ret (bool (wf x))) []) : ∀ (m i : Nat), l.length - i = m → i ≤ l.length →
    RunL P G none 0 (loopAt P 94 0) (rfSt n s l i) (if wfL (l.drop i) = true then .exit 1 else .ret) { env := slots 52 [(1, .ptr 0 0), (2, bool false)], H := [.box [int 3, int n, str s, .sl 4 false (encL l)]] } := by
  intro m
  induction m with
  | zero =>
    intro i hm hi
    rw [List.drop_of_length_le (by omega)]
    simp only [wfL, if_true]
    exact rf_end n s l i (by omega) trivial
  | succ m ih =>
    intro i hm hi
    have hlt : i < l.length := by omega
    have e := List.drop_eq_getElem_cons hlt
    refine rf_step n s l i l[i] hlt hl (List.getElem?_eq_getElem hlt) (hv _ (List.getElem_mem hlt)) _ ⟨fun h => ?_, fun h => ?_⟩
    · rw [e]; simp only [wfL, h, Bool.true_and]; exact ih (i + 1) (by omega) (by omega)
    · rw [e]; simp [wfL, h]
theorem rformed_c (v : CV) : Okv v → CallC P G 94 [val v] [] (.ret (bool (wf v))) [] := by
  refine CV.ind (p := fun v => Okv v → CallC P G 94 [val v] [] (.ret (bool (wf v))) []) (fun k n s l ih hok => ?_) v
  cases hok with
  | mk _ _ _ _ hn hs hl hall =>
    rw [val_mk]
    by_cases h1 : k = 1
    · subst h1
      have ew : wf (.mk 1 n s l) = (decide (s = .empty) && decide (l.length = 0)) := by simp [wf]
      rw [ew]
      refine rf1_w n s l _ ⟨fun a => ?_, fun a => ?_⟩
      · rw [decide_eq_true (show s = .empty from a), Bool.true_and]
        by_cases h : l.length = 0 <;> simp [h]
      · rw [decide_eq_false (show ¬ s = .empty from a)]; rfl
    · by_cases h2 : k = 2
      · subst h2
        have ew : wf (.mk 2 n s l) = (decide (n = 0) && decide (l.length = 0)) := by simp [wf]
        rw [ew]
        refine rf2_w n s l _ ⟨fun a => ?_, fun a => ?_⟩
        · rw [decide_eq_true a, Bool.true_and]
          by_cases h : l.length = 0 <;> simp [h]
        · rw [decide_eq_false a]; rfl
      · by_cases h3 : k = 3
        · subst h3
          have ew : wf (.mk 3 n s l) = (decide (n = 0) && decide (s = .empty) && wfL l) := by simp [wf]
          rw [ew]
          have hL := rf_loop n s l hl (fun x hx => ih x hx (hall x hx)) l.length 0 (by omega) (by omega)
          rw [List.drop_zero] at hL
          refine rf3_w n s l _ hL ⟨fun hw => ⟨fun a => ?_, fun a => ?_⟩, fun hw => ?_⟩
          · rw [hw, decide_eq_true a]; simp [empty_eq]
          · rw [decide_eq_false a]; simp
          · rw [Bool.eq_false_iff.2 hw]; simp
        · have e : wf (.mk k n s l) = false := by simp [wf, h1, h2, h3]
          rw [e]
          exact rfx_w k n s l h1 h2 h3 trivial

theorem rd_loop (n : Int) (s : ByteArray) (l : List CV) (hl : l.length ≤ 9223372036854775807) (hv : ∀ x ∈ l, CallC P G 95 [val x] [] (.ret (int (dp x : Int))) []) : ∀ (m i d : Nat), l.length - i = m → i ≤ l.length →
    RunL P G none 0 (loopAt P 95 0) (rdSt n s l d i) (.exit 0) { env := slots 25 [(3, int ((max d (dpL (l.drop i)) : Nat) : Int))], H := [.box [int 3, int n, str s, .sl 4 false (encL l)]] } := by
  intro m
  induction m with
  | zero =>
    intro i d hm hi
    rw [List.drop_of_length_le (by omega)]
    simp only [dpL, Nat.max_zero]
    exact rd_end n s l d i (by omega) trivial
  | succ m ih =>
    intro i d hm hi
    have hlt : i < l.length := by omega
    have e := List.drop_eq_getElem_cons hlt
    refine rd_step n s l d i l[i] hlt hl (List.getElem?_eq_getElem hlt) (hv _ (List.getElem_mem hlt)) _ _ ?_
    have := ih (i + 1) (max d (dp l[i])) (by omega) (by omega)
    rw [e]
    simp only [dpL]
    have e2 : (if ((dp l[i] : Nat) : Int) > (d : Int) then ((dp l[i] : Nat) : Int) else (d : Int)) = ((max d (dp l[i]) : Nat) : Int) := by
      split <;> omega
    rw [e2, show max d (max (dp l[i]) (dpL (l.drop (i + 1)))) = max (max d (dp l[i])) (dpL (l.drop (i + 1))) by omega]
    unfold rdSt at this
    exact this
theorem rdepth_c (v : CV) : Okv v → dp v ≤ 1000001 → CallC P G 95 [val v] [] (.ret (int (dp v : Int))) [] := by
  refine CV.ind (p := fun v => Okv v → dp v ≤ 1000001 → CallC P G 95 [val v] [] (.ret (int (dp v : Int))) []) (fun k n s l ih hok hd => ?_) v
  cases hok with
  | mk _ _ _ _ hn hs hl hall =>
    rw [val_mk]
    by_cases h3 : k = 3
    · subst h3
      have hd3 : dpL l ≤ 1000000 := by simp only [dp, if_true] at hd; omega
      have hL := rd_loop n s l hl (fun x hx => ih x hx (hall x hx) (by have := dp_mem hx; omega)) l.length 0 0 (by omega) (by omega)
      rw [List.drop_zero, Nat.zero_max] at hL
      have ed : dp (.mk 3 n s l) = dpL l + 1 := by simp [dp]
      rw [ed]
      exact rd3_w n s l _ (by omega) hL rfl
    · have e : dp (.mk k n s l) = 0 := by simp [dp, h3]
      rw [e]
      exact rdx_w k n s l h3 trivial
theorem rcheck_c (v : CV) (hok : Okv v) (hd : dp v ≤ 1000001) : CallC P G 75 [val v] [] (.ret (int (chkE v))) [] := by
  refine rcheck_w v _ hd (rformed_c v hok) (rdepth_c v hok hd) ⟨fun h => ⟨fun h2 => ?_, fun h2 => ?_⟩, fun h => ?_⟩
  · simp only [chkE, h, if_true]; rw [if_pos (by omega)]
  · simp only [chkE, h, if_true]; rw [if_neg (by omega)]
  · simp [chkE, h]

/-! Few -/
theorem cnt_le (v : CV) : Okv v → ∀ d : Int, -1 ≤ d → d ≤ 30 → (cnt d v : Int) ≤ 24000000000000000 * (d + 2) := by
  refine CV.ind (p := fun v => Okv v → ∀ d : Int, -1 ≤ d → d ≤ 30 → (cnt d v : Int) ≤ 24000000000000000 * (d + 2)) (fun k n s l ih hok d h1 h2 => ?_) v
  cases hok with
  | mk _ _ _ _ hn hs hl hall =>
    simp only [cnt]
    split
    · omega
    · rename_i hc
      have key : ∀ (l : List CV) (m : Nat), (∀ x ∈ l, (cnt (d - 1) x : Int) ≤ 24000000000000000 * (d + 1)) → (m : Int) ≤ 24000000000000000 * (d + 2) → (cntL d l m : Int) ≤ 24000000000000000 * (d + 2) := by
        intro l
        induction l with
        | nil => intro m _ hm; exact hm
        | cons x l ihl =>
          intro m hx hm
          simp only [cntL]
          split
          · have := hx x (by simp)
            exact ihl _ (fun y hy => hx y (by simp [hy])) (by omega)
          · exact hm
      refine key l _ (fun x hx => ?_) (by omega)
      have := ih x hx (hall x hx) (d - 1) (by omega) (by omega)
      omega
def fewB (v : CV) : Bool := decide (cnt 20 v ≤ 200)
end Go.Cdc

/- CODEC, 7: the program's writers. -/
namespace Go.Cdc
set_option maxRecDepth 100000
set_option linter.unusedSimpArgs false
set_option linter.unusedVariables false
open Go Go.Am Go.Proofs Go.Seat

theorem numeral_n (xs : List (List AV)) (g u n : Nat) (hn : n = xs.length) (hu : u < 18446744073709551616) (hl : xs.length ≤ 100000000) (hx : ∀ x ∈ xs, AV.idsInL [] x = true) :
    CallC P G 87 [.own 0 g 0 n, u64 u] [.arr g 1 false xs] (.ret (.own 0 (g + (num u).length) 0 (n + (num u).length))) [.arr (g + (num u).length) 1 false (xs ++ bys (num u))] := by
  subst hn; exact numeral_c xs g u hu hl hx
/-- The writers' kinds, in the heap: the array, and the variable that holds its address. -/
def kinds (i j : Nat) : List AObj := [.box [.lit .nilFunc, .lit (.func (.func 86) #[] #[]), .lit (.func (.func 89) #[] #[]), .fn (.func 90) [] [.ptr j 0]], .box [.ptr i 0]]

theorem nw_w  (h : True) : CallC P G 63 [] [] (AOut.ret (AV.ptr 0 0)) (kinds 0 1) := by
  have _ := h
  exact callC_of [kp (show (0 : Int) ≤ (1 : Int) ∧ (1 : Int) < (4 : Int) from (by omega)), kp (show (0 : Int) ≤ (2 : Int) ∧ (2 : Int) < (4 : Int) from (by omega)), kp (show (0 : Int) ≤ (3 : Int) ∧ (3 : Int) < (4 : Int) from (by omega))] (by kernel_rfl)


theorem wrap64_i (n : Nat) (h : n ≤ 9223372036854775807) : n % 18446744073709551616 = n := Nat.mod_eq_of_lt (by omega)

mutual
/-- The encoding. -/
def encB : CV → List UInt8
  | .mk k n s l => if k = 1 then 1 :: num (uns n) else if k = 2 then 2 :: (num s.size ++ s.data.toList) else 3 :: (num l.length ++ encBL l)
def encBL : List CV → List UInt8
  | [] => []
  | v :: l => encB v ++ encBL l
end
mutual
/-- How often an encoding's buffer is renewed. -/
def gens : CV → Nat
  | .mk k n s l => if k = 1 then 1 + (num (uns n)).length else if k = 2 then 2 + (num s.size).length else 1 + (num l.length).length + gensL l
def gensL : List CV → Nat
  | [] => 0
  | v :: l => gens v + gensL l
end
def strB (s : ByteArray) : List (List AV) := s.data.toList.map fun c => [.lit (.int .u8 c.toNat)]
theorem strB_eq (s : ByteArray) : strB s = bys s.data.toList := rfl

theorem w1_own (a : List UInt8) (g : Nat) (n : Int) (s : ByteArray) (l : List CV) (hn : -9223372036854775808 ≤ n ∧ n < 9223372036854775808) (hu : uns n < 18446744073709551616) (hl : a.length ≤ 10000000) (h : (Sub (AV.own 0 (g + 1 + List.length (num (uns n))) 0 (List.length a + 1 + List.length (num (uns n)))) (AV.own 0 (g + (1 + List.length (num (uns n)))) 0 (List.length (a ++ 1 :: num (uns n))))) ∧ ([AObj.arr (g + 1 + List.length (num (uns n))) 1 false (bys a ++ [[AV.lit (Value.int IntKind.u8 1)]] ++ bys (num (uns n)))] = [AObj.arr (g + (1 + List.length (num (uns n)))) 1 false (bys (a ++ 1 :: num (uns n)))])) : CallC P G 86 [AV.own 0 g 0 (List.length a), vmk 1 n s l] [AObj.arr g 1 false (bys a)] (AOut.ret (AV.own 0 (g + (1 + List.length (num (uns n)))) 0 (List.length (a ++ 1 :: num (uns n))))) [AObj.arr (g + (1 + List.length (num (uns n)))) 1 false (bys (a ++ 1 :: num (uns n)))] := by
  have hz5 : ∀ (x : List AV), x ∈ bys a ++ [[AV.lit (Value.int IntKind.u8 1)]] ++ bys (num (uns n)) → AV.idsInL [] x = true := (by exact (Am.allm_append (Am.allm_append (Go.Cdc.bys_ids _) (Am.allm_cons rfl Am.allm_nil)) (Go.Cdc.bys_ids _)))
  obtain ⟨e1, eH⟩ := h
  exact CallC.heap (CallC.out ((show CallC P G 86 [AV.own 0 g 0 (List.length a), vmk 1 n s l] [AObj.arr g 1 false (bys a)] (AOut.ret (AV.own 0 (g + 1 + List.length (num (uns n))) 0 (List.length a + 1 + List.length (num (uns n))))) [AObj.arr (g + 1 + List.length (num (uns n))) 1 false (bys a ++ [[AV.lit (Value.int IntKind.u8 1)]] ++ bys (num (uns n)))] from callC_of [kp (show g = g from (rfl)), kp (show List.length a = List.length (bys a) from ((Go.Cdc.bys_length _).symm)), kp (show (List.length a + 1) * 1 ≤ 140737488355328 from (by omega)), kc [] (@Go.Cdc.uns_c (n) (by omega)), kc [0] (@Go.Cdc.numeral_n (bys a ++ [[AV.lit (Value.int IntKind.u8 1)]]) (g + 1) (uns n) (List.length a + 1) (by simp only [List.length_append, List.length_cons, List.length_nil, List.length_map, Go.Cdc.bys_length, Go.Cdc.bys_ids, Go.Cdc.bys_pure, Go.Cdc.bdata_length, Go.Cdc.strB_ids, Go.Cdc.strB_pure] <;> omega) (by omega) (by simp only [List.length_append, List.length_cons, List.length_nil, List.length_map, Go.Cdc.bys_length, Go.Cdc.bys_ids, Go.Cdc.bys_pure, Go.Cdc.bdata_length, Go.Cdc.strB_ids, Go.Cdc.strB_pure] <;> omega) (by exact (Am.allm_append (Go.Cdc.bys_ids _) (Am.allm_cons rfl Am.allm_nil)))), kp hz5, kp (show ∀ (x : List AV), x ∈ bys a ++ chunks (TypeInfo.size (Tables.types (Program.toTables P))[5]) 1 (splice (zerosA (List.map AV.lit (Array.toList (Value.cells (Value.int IntKind.u8 0)))) (1 * TypeInfo.size (Tables.types (Program.toTables P))[5])) (0 * TypeInfo.size (Tables.types (Program.toTables P))[5]) [AV.lit (Value.int IntKind.u8 1)]) → AV.idsInL [] x = true from (by exact (Am.allm_append (Go.Cdc.bys_ids _) (Am.allm_cons rfl Am.allm_nil)))), kp hz5] (by kernel_rfl))) e1) eH


theorem w1_nil (n : Int) (s : ByteArray) (l : List CV) (hn : -9223372036854775808 ≤ n ∧ n < 9223372036854775808) (hu : uns n < 18446744073709551616) (h : True) : CallC P G 86 [nilS, vmk 1 n s l] [] (AOut.ret (byt (1 :: num (uns n)))) [] := by
  have _ := h
  exact callC_of [kp (show [[AV.lit (Value.int IntKind.u8 1)]] ≠ [] from (by simp)), kp (show 1 ≤ 140737488355328 from (by omega)), kc [] (@Go.Cdc.uns_c (n) (by omega)), kc [1] (@Go.Cdc.numeral_n ([[AV.lit (Value.int IntKind.u8 1)]]) (0) (uns n) (1) (rfl) (by omega) (by simp only [List.length_append, List.length_cons, List.length_nil, List.length_map, Go.Cdc.bys_length, Go.Cdc.bys_ids, Go.Cdc.bys_pure, Go.Cdc.bdata_length, Go.Cdc.strB_ids, Go.Cdc.strB_pure] <;> omega) (by exact (Am.allm_cons rfl Am.allm_nil))), ko (Orc.frz ([AV.lit (Value.int IntKind.u8 1)] :: bys (num (uns n)))), kp (show ∀ (x : List AV), x ∈ [[AV.lit (Value.int IntKind.u8 1)]] ++ bys (num (uns n)) → AV.idsInL [] x = true from (by exact (Am.allm_append (Am.allm_cons rfl Am.allm_nil) (Go.Cdc.bys_ids _)))), kp (show ∀ (x : List AV), x ∈ chunks (TypeInfo.size (Tables.types (Program.toTables P))[5]) 1 (splice (zerosA (List.map AV.lit (Array.toList (Value.cells (Value.int IntKind.u8 0)))) (1 * TypeInfo.size (Tables.types (Program.toTables P))[5])) (0 * TypeInfo.size (Tables.types (Program.toTables P))[5]) [AV.lit (Value.int IntKind.u8 1)]) → AV.idsInL [] x = true from (by exact (Am.allm_cons rfl Am.allm_nil))), kp (show 0 + List.length (num (uns n)) = 0 + List.length (num (uns n)) from (rfl)), kp (show List.take (1 + List.length (num (uns n))) (List.drop 0 ([AV.lit (Value.int IntKind.u8 1)] :: bys (num (uns n)))) = [AV.lit (Value.int IntKind.u8 1)] :: bys (num (uns n)) from (by rw [List.drop_zero, List.take_of_length_le (by simp only [List.length_append, List.length_cons, List.length_nil, List.length_map, Go.Cdc.bys_length, Go.Cdc.bys_ids, Go.Cdc.bys_pure, Go.Cdc.bdata_length, Go.Cdc.strB_ids, Go.Cdc.strB_pure] <;> omega)])), kp (show List.length ([AV.lit (Value.int IntKind.u8 1)] :: bys (num (uns n))) = 1 + List.length (num (uns n)) from (by simp only [List.length_append, List.length_cons, List.length_nil, List.length_map, Go.Cdc.bys_length, Go.Cdc.bys_ids, Go.Cdc.bys_pure, Go.Cdc.bdata_length, Go.Cdc.strB_ids, Go.Cdc.strB_pure] <;> omega)), kp (show ∀ (c : List AV), c ∈ [AV.lit (Value.int IntKind.u8 1)] :: bys (num (uns n)) → List.all c AV.pureB = true from (by exact (Am.allm_cons rfl (Go.Cdc.bys_pure _))))] (by kernel_rfl)


theorem w2_own (a : List UInt8) (g : Nat) (n : Int) (s : ByteArray) (l : List CV) (hs : s.size ≤ 10000000) (hl : a.length ≤ 10000000) (h : (((List.length a + 1 + List.length (num (ByteArray.size s % 18446744073709551616)) + List.length (List.map (fun (c : UInt8) => [AV.lit (Value.int IntKind.u8 (↑(UInt8.toNat c) : Int))]) (Array.toList (ByteArray.data s)))) * 1 ≤ 140737488355328) ∧ (Sub (AV.own 0 (g + 1 + List.length (num (ByteArray.size s % 18446744073709551616)) + 1) 0 (List.length a + 1 + List.length (num (ByteArray.size s % 18446744073709551616)) + List.length (List.map (fun (c : UInt8) => [AV.lit (Value.int IntKind.u8 (↑(UInt8.toNat c) : Int))]) (Array.toList (ByteArray.data s))))) (AV.own 0 (g + (2 + List.length (num (ByteArray.size s)))) 0 (List.length (a ++ 2 :: (num (ByteArray.size s) ++ Array.toList (ByteArray.data s)))))) ∧ ([AObj.arr (g + 1 + List.length (num (ByteArray.size s % 18446744073709551616)) + 1) 1 false (bys a ++ [[AV.lit (Value.int IntKind.u8 2)]] ++ bys (num (ByteArray.size s % 18446744073709551616)) ++ List.map (fun (c : UInt8) => [AV.lit (Value.int IntKind.u8 (↑(UInt8.toNat c) : Int))]) (Array.toList (ByteArray.data s)))] = [AObj.arr (g + (2 + List.length (num (ByteArray.size s)))) 1 false (bys (a ++ 2 :: (num (ByteArray.size s) ++ Array.toList (ByteArray.data s))))]))) : CallC P G 89 [AV.own 0 g 0 (List.length a), vmk 2 n s l] [AObj.arr g 1 false (bys a)] (AOut.ret (AV.own 0 (g + (2 + List.length (num (ByteArray.size s)))) 0 (List.length (a ++ 2 :: (num (ByteArray.size s) ++ Array.toList (ByteArray.data s)))))) [AObj.arr (g + (2 + List.length (num (ByteArray.size s)))) 1 false (bys (a ++ 2 :: (num (ByteArray.size s) ++ Array.toList (ByteArray.data s))))] := by
  obtain ⟨o1, h⟩ := h
  obtain ⟨e1, eH⟩ := h
  exact CallC.heap (CallC.out ((show CallC P G 89 [AV.own 0 g 0 (List.length a), vmk 2 n s l] [AObj.arr g 1 false (bys a)] (AOut.ret (AV.own 0 (g + 1 + List.length (num (ByteArray.size s % 18446744073709551616)) + 1) 0 (List.length a + 1 + List.length (num (ByteArray.size s % 18446744073709551616)) + List.length (List.map (fun (c : UInt8) => [AV.lit (Value.int IntKind.u8 (↑(UInt8.toNat c) : Int))]) (Array.toList (ByteArray.data s)))))) [AObj.arr (g + 1 + List.length (num (ByteArray.size s % 18446744073709551616)) + 1) 1 false (bys a ++ [[AV.lit (Value.int IntKind.u8 2)]] ++ bys (num (ByteArray.size s % 18446744073709551616)) ++ List.map (fun (c : UInt8) => [AV.lit (Value.int IntKind.u8 (↑(UInt8.toNat c) : Int))]) (Array.toList (ByteArray.data s)))] from callC_of [kp (show g = g from (rfl)), kp (show List.length a = List.length (bys a) from ((Go.Cdc.bys_length _).symm)), kp (show (List.length a + 1) * 1 ≤ 140737488355328 from (by omega)), kc [0] (@Go.Cdc.numeral_n (bys a ++ [[AV.lit (Value.int IntKind.u8 2)]]) (g + 1) (ByteArray.size s % 18446744073709551616) (List.length a + 1) (by simp only [List.length_append, List.length_cons, List.length_nil, List.length_map, Go.Cdc.bys_length, Go.Cdc.bys_ids, Go.Cdc.bys_pure, Go.Cdc.bdata_length, Go.Cdc.strB_ids, Go.Cdc.strB_pure] <;> omega) (by omega) (by simp only [List.length_append, List.length_cons, List.length_nil, List.length_map, Go.Cdc.bys_length, Go.Cdc.bys_ids, Go.Cdc.bys_pure, Go.Cdc.bdata_length, Go.Cdc.strB_ids, Go.Cdc.strB_pure] <;> omega) (by exact (Am.allm_append (Go.Cdc.bys_ids _) (Am.allm_cons rfl Am.allm_nil)))), kp (show ∀ (x : List AV), x ∈ bys a ++ [[AV.lit (Value.int IntKind.u8 2)]] ++ bys (num (ByteArray.size s % 18446744073709551616)) → AV.idsInL [] x = true from (by exact (Am.allm_append (Am.allm_append (Go.Cdc.bys_ids _) (Am.allm_cons rfl Am.allm_nil)) (Go.Cdc.bys_ids _)))), kp (show ∀ (x : List AV), x ∈ bys a ++ chunks (TypeInfo.size (Tables.types (Program.toTables P))[5]) 1 (splice (zerosA (List.map AV.lit (Array.toList (Value.cells (Value.int IntKind.u8 0)))) (1 * TypeInfo.size (Tables.types (Program.toTables P))[5])) (0 * TypeInfo.size (Tables.types (Program.toTables P))[5]) [AV.lit (Value.int IntKind.u8 2)]) → AV.idsInL [] x = true from (by exact (Am.allm_append (Go.Cdc.bys_ids _) (Am.allm_cons rfl Am.allm_nil)))), kp (show g + 1 + List.length (num (ByteArray.size s % 18446744073709551616)) = g + 1 + List.length (num (ByteArray.size s % 18446744073709551616)) from (rfl)), kp (show List.length a + 1 + List.length (num (ByteArray.size s % 18446744073709551616)) = List.length (bys a ++ [[AV.lit (Value.int IntKind.u8 2)]] ++ bys (num (ByteArray.size s % 18446744073709551616))) from (by simp only [List.length_append, List.length_cons, List.length_nil, List.length_map, Go.Cdc.bys_length, Go.Cdc.bys_ids, Go.Cdc.bys_pure, Go.Cdc.bdata_length, Go.Cdc.strB_ids, Go.Cdc.strB_pure] <;> omega)), kp o1, kp (show ∀ (x : List AV), x ∈ bys a ++ [[AV.lit (Value.int IntKind.u8 2)]] ++ bys (num (ByteArray.size s % 18446744073709551616)) ++ List.map (fun (c : UInt8) => [AV.lit (Value.int IntKind.u8 (↑(UInt8.toNat c) : Int))]) (Array.toList (ByteArray.data s)) → AV.idsInL [] x = true from (by exact (Am.allm_append (Am.allm_append (Am.allm_append (Go.Cdc.bys_ids _) (Am.allm_cons rfl Am.allm_nil)) (Go.Cdc.bys_ids _)) (Go.Cdc.strB_ids _))))] (by kernel_rfl))) e1) eH


theorem w2_nil (n : Int) (s : ByteArray) (l : List CV) (hs : s.size ≤ 10000000) (h : (((1 + List.length (num (ByteArray.size s % 18446744073709551616)) + List.length (List.map (fun (c : UInt8) => [AV.lit (Value.int IntKind.u8 (↑(UInt8.toNat c) : Int))]) (Array.toList (ByteArray.data s)))) * 1 ≤ 140737488355328) ∧ ([AV.lit (Value.int IntKind.u8 2)] :: bys (num (ByteArray.size s % 18446744073709551616)) ++ List.map (fun (c : UInt8) => [AV.lit (Value.int IntKind.u8 (↑(UInt8.toNat c) : Int))]) (Array.toList (ByteArray.data s))) = (bys (2 :: (num (ByteArray.size s) ++ Array.toList (ByteArray.data s)))))) : CallC P G 89 [nilS, vmk 2 n s l] [] (AOut.ret (byt (2 :: (num (ByteArray.size s) ++ Array.toList (ByteArray.data s))))) [] := by
  obtain ⟨o1, h⟩ := h
  have e1 := h
  exact CallC.out ((show CallC P G 89 [nilS, vmk 2 n s l] [] (AOut.ret (AV.sl 1 false ([AV.lit (Value.int IntKind.u8 2)] :: bys (num (ByteArray.size s % 18446744073709551616)) ++ List.map (fun (c : UInt8) => [AV.lit (Value.int IntKind.u8 (↑(UInt8.toNat c) : Int))]) (Array.toList (ByteArray.data s))))) [] from callC_of [kp (show [[AV.lit (Value.int IntKind.u8 2)]] ≠ [] from (by simp)), kp (show 1 ≤ 140737488355328 from (by omega)), kc [1] (@Go.Cdc.numeral_n ([[AV.lit (Value.int IntKind.u8 2)]]) (0) (ByteArray.size s % 18446744073709551616) (1) (rfl) (by omega) (by simp only [List.length_append, List.length_cons, List.length_nil, List.length_map, Go.Cdc.bys_length, Go.Cdc.bys_ids, Go.Cdc.bys_pure, Go.Cdc.bdata_length, Go.Cdc.strB_ids, Go.Cdc.strB_pure] <;> omega) (by exact (Am.allm_cons rfl Am.allm_nil))), ko (Orc.frz ([AV.lit (Value.int IntKind.u8 2)] :: bys (num (ByteArray.size s % 18446744073709551616)) ++ List.map (fun (c : UInt8) => [AV.lit (Value.int IntKind.u8 (↑(UInt8.toNat c) : Int))]) (Array.toList (ByteArray.data s)))), kp (show ∀ (x : List AV), x ∈ [[AV.lit (Value.int IntKind.u8 2)]] ++ bys (num (ByteArray.size s % 18446744073709551616)) → AV.idsInL [] x = true from (by exact (Am.allm_append (Am.allm_cons rfl Am.allm_nil) (Go.Cdc.bys_ids _)))), kp (show ∀ (x : List AV), x ∈ chunks (TypeInfo.size (Tables.types (Program.toTables P))[5]) 1 (splice (zerosA (List.map AV.lit (Array.toList (Value.cells (Value.int IntKind.u8 0)))) (1 * TypeInfo.size (Tables.types (Program.toTables P))[5])) (0 * TypeInfo.size (Tables.types (Program.toTables P))[5]) [AV.lit (Value.int IntKind.u8 2)]) → AV.idsInL [] x = true from (by exact (Am.allm_cons rfl Am.allm_nil))), kp (show 0 + List.length (num (ByteArray.size s % 18446744073709551616)) = 0 + List.length (num (ByteArray.size s % 18446744073709551616)) from (rfl)), kp (show 1 + List.length (num (ByteArray.size s % 18446744073709551616)) = List.length ([AV.lit (Value.int IntKind.u8 2)] :: bys (num (ByteArray.size s % 18446744073709551616))) from (by simp only [List.length_append, List.length_cons, List.length_nil, List.length_map, Go.Cdc.bys_length, Go.Cdc.bys_ids, Go.Cdc.bys_pure, Go.Cdc.bdata_length, Go.Cdc.strB_ids, Go.Cdc.strB_pure] <;> omega)), kp o1, kp (show 0 + List.length (num (ByteArray.size s % 18446744073709551616)) + 1 = 0 + List.length (num (ByteArray.size s % 18446744073709551616)) + 1 from (rfl)), kp (show List.take (1 + List.length (num (ByteArray.size s % 18446744073709551616)) + List.length (List.map (fun (c : UInt8) => [AV.lit (Value.int IntKind.u8 (↑(UInt8.toNat c) : Int))]) (Array.toList (ByteArray.data s)))) (List.drop 0 ([AV.lit (Value.int IntKind.u8 2)] :: bys (num (ByteArray.size s % 18446744073709551616)) ++ List.map (fun (c : UInt8) => [AV.lit (Value.int IntKind.u8 (↑(UInt8.toNat c) : Int))]) (Array.toList (ByteArray.data s)))) = [AV.lit (Value.int IntKind.u8 2)] :: bys (num (ByteArray.size s % 18446744073709551616)) ++ List.map (fun (c : UInt8) => [AV.lit (Value.int IntKind.u8 (↑(UInt8.toNat c) : Int))]) (Array.toList (ByteArray.data s)) from (by rw [List.drop_zero, List.take_of_length_le (by simp only [List.length_append, List.length_cons, List.length_nil, List.length_map, Go.Cdc.bys_length, Go.Cdc.bys_ids, Go.Cdc.bys_pure, Go.Cdc.bdata_length, Go.Cdc.strB_ids, Go.Cdc.strB_pure] <;> omega)])), kp (show List.length ([AV.lit (Value.int IntKind.u8 2)] :: bys (num (ByteArray.size s % 18446744073709551616)) ++ List.map (fun (c : UInt8) => [AV.lit (Value.int IntKind.u8 (↑(UInt8.toNat c) : Int))]) (Array.toList (ByteArray.data s))) = 1 + List.length (num (ByteArray.size s % 18446744073709551616)) + List.length (List.map (fun (c : UInt8) => [AV.lit (Value.int IntKind.u8 (↑(UInt8.toNat c) : Int))]) (Array.toList (ByteArray.data s))) from (by simp only [List.length_append, List.length_cons, List.length_nil, List.length_map, Go.Cdc.bys_length, Go.Cdc.bys_ids, Go.Cdc.bys_pure, Go.Cdc.bdata_length, Go.Cdc.strB_ids, Go.Cdc.strB_pure] <;> omega)), kp (show ∀ (c : List AV), c ∈ [AV.lit (Value.int IntKind.u8 2)] :: bys (num (ByteArray.size s % 18446744073709551616)) ++ List.map (fun (c : UInt8) => [AV.lit (Value.int IntKind.u8 (↑(UInt8.toNat c) : Int))]) (Array.toList (ByteArray.data s)) → List.all c AV.pureB = true from (by exact (Am.allm_append (Am.allm_cons rfl (Go.Cdc.bys_pure _)) (Go.Cdc.strB_pure _))))] (by kernel_rfl))) (Sub.list_eq e1)


def wrSt (xs : List (List AV)) (N g : Nat) (n0 : Int) (s0 : ByteArray) (l : List CV) (i : Nat) : St := { env := slots 35 [(0, .own 0 g 0 N), (2, .ptr 2 0), (17, .sl 4 false (encL l)), (18, int l.length), (19, int i)], H := .arr g 1 false xs :: (kinds 1 2 ++ [.box [int 3, int n0, str s0, .sl 4 false (encL l)]]) }

theorem wr_end (xs : List (List AV)) (N g : Nat) (n0 : Int) (s0 : ByteArray) (l : List CV) (i : Nat) (hi : l.length ≤ i) (h : True) : RunL P G none 3 (loopAt P 90 0) (wrSt xs N g n0 s0 l i) (AEx.exit 0) { env := slots 35 [(0, AV.own 0 g 0 N)], H := AObj.arr g 1 false xs :: (kinds 1 2 ++ [AObj.box [int 3, int n0, str s0, AV.sl 4 false (encL l)]]) } := by
  have _ := h
  exact loop_exit [kf (show decide ((↑i : Int) < (↑(List.length l) : Int)) = false from (decide_eq_false (by omega)))] (others 35 [0]) 4 (by kernel_rfl)


theorem wr_step1 (xs ys : List (List AV)) (N M g g' : Nat) (n0 : Int) (s0 : ByteArray) (l : List CV) (i : Nat) (n : Int) (s : ByteArray) (m : List CV) (hi : i < l.length) (hl : l.length ≤ 9223372036854775807) (hx : l[i]? = some (.mk 1 n s m)) (hv : CallC P G 86 [.own 0 g 0 N, vmk 1 n s m] [.arr g 1 false xs] (.ret (.own 0 g' 0 M)) [.arr g' 1 false ys]) (ex : AEx) (s' : St) (h : (((0 : Int) ≤ CV.k (CV.mk 1 n s m) ∧ CV.k (CV.mk 1 n s m) < (4 : Int)) ∧ ((∀ (x : List AV), x ∈ ys → AV.idsInL [] x = true) ∧ ((∀ (x : List AV), x ∈ xs → AV.idsInL [] x = true) ∧ RunL P G none 3 (loopAt P 90 0) { env := slots 35 [(0, AV.own 0 g' 0 M), (2, AV.ptr 2 0), (17, AV.sl 4 false (encL l)), (18, int (↑(List.length l) : Int)), (19, int (↑(i + 1) : Int))], H := [AObj.arr g' 1 false ys, AObj.box [AV.lit Value.nilFunc, AV.lit (Value.func (Fn.func 86) { toList := [] } { toList := [] }), AV.lit (Value.func (Fn.func 89) { toList := [] } { toList := [] }), AV.fn (Fn.func 90) [] [AV.ptr 2 0]], AObj.box [AV.ptr 1 0], AObj.box [int 3, int n0, str s0, AV.sl 4 false (encL l)]] } ex s')))) : RunL P G none 3 (loopAt P 90 0) (wrSt xs N g n0 s0 l i) ex s' := by
  obtain ⟨o2, h⟩ := h
  obtain ⟨o3, h⟩ := h
  obtain ⟨o4, h⟩ := h
  exact loop_next [kt (show decide ((↑i : Int) < (↑(List.length l) : Int)) = true from (decide_eq_true (by omega))), ko (Orc.elem (enc (CV.mk 1 n s m))), kp (show (0 : Int) ≤ (↑i : Int) ∧ (encL l)[Int.toNat (↑i : Int)]? = some (enc (CV.mk 1 n s m)) from (by rw [Go.Cdc.encL_map]; exact el_nat hx)), kp o2, kc [0] (@hv ), kp o3, kp o4, kv 33 (show Am.Sub (int (IntKind.wrap IntKind.i64 ((↑i : Int) + 1))) (int (↑(i + 1) : Int)) from (Sub.of_wrap (by omega) (by omega) (by omega))), kp (show ∀ (x : List AV), x ∈ ys → AV.idsInL [] x = true from (by omega))] (others 35 [0, 2, 17, 18, 19]) 4 h (by kernel_rfl)


theorem wr_step2 (xs ys : List (List AV)) (N M g g' : Nat) (n0 : Int) (s0 : ByteArray) (l : List CV) (i : Nat) (n : Int) (s : ByteArray) (m : List CV) (hi : i < l.length) (hl : l.length ≤ 9223372036854775807) (hx : l[i]? = some (.mk 2 n s m)) (hv : CallC P G 89 [.own 0 g 0 N, vmk 2 n s m] [.arr g 1 false xs] (.ret (.own 0 g' 0 M)) [.arr g' 1 false ys]) (ex : AEx) (s' : St) (h : (((0 : Int) ≤ CV.k (CV.mk 2 n s m) ∧ CV.k (CV.mk 2 n s m) < (4 : Int)) ∧ ((∀ (x : List AV), x ∈ ys → AV.idsInL [] x = true) ∧ ((∀ (x : List AV), x ∈ xs → AV.idsInL [] x = true) ∧ RunL P G none 3 (loopAt P 90 0) { env := slots 35 [(0, AV.own 0 g' 0 M), (2, AV.ptr 2 0), (17, AV.sl 4 false (encL l)), (18, int (↑(List.length l) : Int)), (19, int (↑(i + 1) : Int))], H := [AObj.arr g' 1 false ys, AObj.box [AV.lit Value.nilFunc, AV.lit (Value.func (Fn.func 86) { toList := [] } { toList := [] }), AV.lit (Value.func (Fn.func 89) { toList := [] } { toList := [] }), AV.fn (Fn.func 90) [] [AV.ptr 2 0]], AObj.box [AV.ptr 1 0], AObj.box [int 3, int n0, str s0, AV.sl 4 false (encL l)]] } ex s')))) : RunL P G none 3 (loopAt P 90 0) (wrSt xs N g n0 s0 l i) ex s' := by
  obtain ⟨o2, h⟩ := h
  obtain ⟨o3, h⟩ := h
  obtain ⟨o4, h⟩ := h
  exact loop_next [kt (show decide ((↑i : Int) < (↑(List.length l) : Int)) = true from (decide_eq_true (by omega))), ko (Orc.elem (enc (CV.mk 2 n s m))), kp (show (0 : Int) ≤ (↑i : Int) ∧ (encL l)[Int.toNat (↑i : Int)]? = some (enc (CV.mk 2 n s m)) from (by rw [Go.Cdc.encL_map]; exact el_nat hx)), kp o2, kc [0] (@hv ), kp o3, kp o4, kv 33 (show Am.Sub (int (IntKind.wrap IntKind.i64 ((↑i : Int) + 1))) (int (↑(i + 1) : Int)) from (Sub.of_wrap (by omega) (by omega) (by omega))), kp (show ∀ (x : List AV), x ∈ ys → AV.idsInL [] x = true from (by omega))] (others 35 [0, 2, 17, 18, 19]) 4 h (by kernel_rfl)


theorem wr_step3 (xs ys : List (List AV)) (N M g g' : Nat) (n0 : Int) (s0 : ByteArray) (l : List CV) (i : Nat) (n : Int) (s : ByteArray) (m : List CV) (hi : i < l.length) (hl : l.length ≤ 9223372036854775807) (hx : l[i]? = some (.mk 3 n s m)) (hv : CallC P G 90 [.own 0 g 0 N, vmk 3 n s m, .ptr 2 0] (.arr g 1 false xs :: kinds 1 2) (.ret (.own 0 g' 0 M)) (.arr g' 1 false ys :: kinds 1 2)) (ex : AEx) (s' : St) (h : (((0 : Int) ≤ CV.k (CV.mk 3 n s m) ∧ CV.k (CV.mk 3 n s m) < (4 : Int)) ∧ ((∀ (x : List AV), x ∈ ys → AV.idsInL [] x = true) ∧ ((∀ (x : List AV), x ∈ xs → AV.idsInL [] x = true) ∧ RunL P G none 3 (loopAt P 90 0) { env := slots 35 [(0, AV.own 0 g' 0 M), (2, AV.ptr 2 0), (17, AV.sl 4 false (encL l)), (18, int (↑(List.length l) : Int)), (19, int (↑(i + 1) : Int))], H := [AObj.arr g' 1 false ys, AObj.box [AV.lit Value.nilFunc, AV.lit (Value.func (Fn.func 86) { toList := [] } { toList := [] }), AV.lit (Value.func (Fn.func 89) { toList := [] } { toList := [] }), AV.fn (Fn.func 90) [] [AV.ptr 2 0]], AObj.box [AV.ptr 1 0], AObj.box [int 3, int n0, str s0, AV.sl 4 false (encL l)]] } ex s')))) : RunL P G none 3 (loopAt P 90 0) (wrSt xs N g n0 s0 l i) ex s' := by
  obtain ⟨o2, h⟩ := h
  obtain ⟨o3, h⟩ := h
  obtain ⟨o4, h⟩ := h
  exact loop_next [kt (show decide ((↑i : Int) < (↑(List.length l) : Int)) = true from (decide_eq_true (by omega))), ko (Orc.elem (enc (CV.mk 3 n s m))), kp (show (0 : Int) ≤ (↑i : Int) ∧ (encL l)[Int.toNat (↑i : Int)]? = some (enc (CV.mk 3 n s m)) from (by rw [Go.Cdc.encL_map]; exact el_nat hx)), kp o2, kc [0, 1, 2] (@hv ), kp o3, kp o4, kv 33 (show Am.Sub (int (IntKind.wrap IntKind.i64 ((↑i : Int) + 1))) (int (↑(i + 1) : Int)) from (Sub.of_wrap (by omega) (by omega) (by omega))), kp (show ∀ (x : List AV), x ∈ ys → AV.idsInL [] x = true from (by omega))] (others 35 [0, 2, 17, 18, 19]) 4 h (by kernel_rfl)


theorem w3_own (a b : List UInt8) (g g' : Nat) (n : Int) (s : ByteArray) (l : List CV) (hs : l.length ≤ 10000000) (hl : a.length ≤ 10000000) (hL : RunL P G none 3 (loopAt P 90 0) (wrSt (bys a ++ [[.lit (.int .u8 3)]] ++ bys (num (l.length % 18446744073709551616))) (a.length + 1 + (num (l.length % 18446744073709551616)).length) (g + 1 + (num (l.length % 18446744073709551616)).length) n s l 0) (.exit 0) { env := slots 35 [(0, .own 0 g' 0 b.length)], H := .arr g' 1 false (bys b) :: (kinds 1 2 ++ [.box [int 3, int n, str s, .sl 4 false (encL l)]]) }) (h : True) : CallC P G 90 [AV.own 0 g 0 (List.length a), vmk 3 n s l, AV.ptr 2 0] (AObj.arr g 1 false (bys a) :: kinds 1 2) (AOut.ret (AV.own 0 g' 0 (List.length b))) (AObj.arr g' 1 false (bys b) :: kinds 1 2) := by
  have hz3 : Am.Sub (int (↑(List.length (encL l)) : Int)) (int (↑(List.length l) : Int)) := (Sub.of_eq (by simp only [Go.Cdc.encL_length]))
  have _ := h
  exact callC_of [kp (show g = g from (rfl)), kp (show List.length a = List.length (bys a) from ((Go.Cdc.bys_length _).symm)), kp (show (List.length a + 1) * 1 ≤ 140737488355328 from (by omega)), kv 13 hz3, kc [0] (@Go.Cdc.numeral_n (bys a ++ [[AV.lit (Value.int IntKind.u8 3)]]) (g + 1) (List.length l % 18446744073709551616) (List.length a + 1) (by simp only [List.length_append, List.length_cons, List.length_nil, List.length_map, Go.Cdc.bys_length, Go.Cdc.bys_ids, Go.Cdc.bys_pure, Go.Cdc.encL_length] <;> omega) (by omega) (by simp only [List.length_append, List.length_cons, List.length_nil, List.length_map, Go.Cdc.bys_length, Go.Cdc.bys_ids, Go.Cdc.bys_pure, Go.Cdc.encL_length] <;> omega) (by exact (Am.allm_append (Go.Cdc.bys_ids _) (Am.allm_cons rfl Am.allm_nil)))), kp (show ∀ (x : List AV), x ∈ bys a ++ [[AV.lit (Value.int IntKind.u8 3)]] ++ bys (num (List.length l % 18446744073709551616)) → AV.idsInL [] x = true from (by exact (Am.allm_append (Am.allm_append (Go.Cdc.bys_ids _) (Am.allm_cons rfl Am.allm_nil)) (Go.Cdc.bys_ids _)))), kp (show ∀ (x : List AV), x ∈ bys a ++ chunks (TypeInfo.size (Tables.types (Program.toTables P))[5]) 1 (splice (zerosA (List.map AV.lit (Array.toList (Value.cells (Value.int IntKind.u8 0)))) (1 * TypeInfo.size (Tables.types (Program.toTables P))[5])) (0 * TypeInfo.size (Tables.types (Program.toTables P))[5]) [AV.lit (Value.int IntKind.u8 3)]) → AV.idsInL [] x = true from (by exact (Am.allm_append (Go.Cdc.bys_ids _) (Am.allm_cons rfl Am.allm_nil)))), kv 18 hz3, kl [1, 3, 4, 5, 6, 7, 8, 9, 10, 11, 12, 13, 14, 15, 16, 20, 21, 22, 23, 24, 25, 26, 27, 28, 29, 30, 31, 32, 33, 34] 4 (@hL ), kp (show ∀ (x : List AV), x ∈ bys b → AV.idsInL [] x = true from (Go.Cdc.bys_ids _))] (by kernel_rfl)


def wzSt (xs : List (List AV)) (N g : Nat) (n0 : Int) (s0 : ByteArray) (l : List CV) (i : Nat) : St := { env := slots 35 [(0, .own 3 g 0 N), (2, .ptr 1 0), (17, .sl 4 false (encL l)), (18, int l.length), (19, int i)], H := kinds 0 1 ++ [.box [int 3, int n0, str s0, .sl 4 false (encL l)], .arr g 1 false xs] }

theorem wz_end (xs : List (List AV)) (N g : Nat) (n0 : Int) (s0 : ByteArray) (l : List CV) (i : Nat) (hi : l.length ≤ i) (h : True) : RunL P G none 2 (loopAt P 90 0) (wzSt xs N g n0 s0 l i) (AEx.exit 0) { env := slots 35 [(0, AV.own 3 g 0 N)], H := kinds 0 1 ++ [AObj.box [int 3, int n0, str s0, AV.sl 4 false (encL l)], AObj.arr g 1 false xs] } := by
  have _ := h
  exact loop_exit [kf (show decide ((↑i : Int) < (↑(List.length l) : Int)) = false from (decide_eq_false (by omega)))] (others 35 [0]) 4 (by kernel_rfl)


theorem wz_step1 (xs ys : List (List AV)) (N M g g' : Nat) (n0 : Int) (s0 : ByteArray) (l : List CV) (i : Nat) (n : Int) (s : ByteArray) (m : List CV) (hi : i < l.length) (hl : l.length ≤ 9223372036854775807) (hx : l[i]? = some (.mk 1 n s m)) (hv : CallC P G 86 [.own 0 g 0 N, vmk 1 n s m] [.arr g 1 false xs] (.ret (.own 0 g' 0 M)) [.arr g' 1 false ys]) (ex : AEx) (s' : St) (h : (((0 : Int) ≤ CV.k (CV.mk 1 n s m) ∧ CV.k (CV.mk 1 n s m) < (4 : Int)) ∧ ((∀ (x : List AV), x ∈ ys → AV.idsInL [] x = true) ∧ ((∀ (x : List AV), x ∈ xs → AV.idsInL [] x = true) ∧ RunL P G none 2 (loopAt P 90 0) { env := slots 35 [(0, AV.own 3 g' 0 M), (2, AV.ptr 1 0), (17, AV.sl 4 false (encL l)), (18, int (↑(List.length l) : Int)), (19, int (↑(i + 1) : Int))], H := [AObj.box [AV.lit Value.nilFunc, AV.lit (Value.func (Fn.func 86) { toList := [] } { toList := [] }), AV.lit (Value.func (Fn.func 89) { toList := [] } { toList := [] }), AV.fn (Fn.func 90) [] [AV.ptr 1 0]], AObj.box [AV.ptr 0 0], AObj.box [int 3, int n0, str s0, AV.sl 4 false (encL l)], AObj.arr g' 1 false ys] } ex s')))) : RunL P G none 2 (loopAt P 90 0) (wzSt xs N g n0 s0 l i) ex s' := by
  obtain ⟨o2, h⟩ := h
  obtain ⟨o3, h⟩ := h
  obtain ⟨o4, h⟩ := h
  exact loop_next [kt (show decide ((↑i : Int) < (↑(List.length l) : Int)) = true from (decide_eq_true (by omega))), ko (Orc.elem (enc (CV.mk 1 n s m))), kp (show (0 : Int) ≤ (↑i : Int) ∧ (encL l)[Int.toNat (↑i : Int)]? = some (enc (CV.mk 1 n s m)) from (by rw [Go.Cdc.encL_map]; exact el_nat hx)), kp o2, kc [3] (@hv ), kp o3, kp o4, kv 33 (show Am.Sub (int (IntKind.wrap IntKind.i64 ((↑i : Int) + 1))) (int (↑(i + 1) : Int)) from (Sub.of_wrap (by omega) (by omega) (by omega))), kp (show ∀ (x : List AV), x ∈ ys → AV.idsInL [] x = true from (by omega))] (others 35 [0, 2, 17, 18, 19]) 4 h (by kernel_rfl)


theorem wz_step2 (xs ys : List (List AV)) (N M g g' : Nat) (n0 : Int) (s0 : ByteArray) (l : List CV) (i : Nat) (n : Int) (s : ByteArray) (m : List CV) (hi : i < l.length) (hl : l.length ≤ 9223372036854775807) (hx : l[i]? = some (.mk 2 n s m)) (hv : CallC P G 89 [.own 0 g 0 N, vmk 2 n s m] [.arr g 1 false xs] (.ret (.own 0 g' 0 M)) [.arr g' 1 false ys]) (ex : AEx) (s' : St) (h : (((0 : Int) ≤ CV.k (CV.mk 2 n s m) ∧ CV.k (CV.mk 2 n s m) < (4 : Int)) ∧ ((∀ (x : List AV), x ∈ ys → AV.idsInL [] x = true) ∧ ((∀ (x : List AV), x ∈ xs → AV.idsInL [] x = true) ∧ RunL P G none 2 (loopAt P 90 0) { env := slots 35 [(0, AV.own 3 g' 0 M), (2, AV.ptr 1 0), (17, AV.sl 4 false (encL l)), (18, int (↑(List.length l) : Int)), (19, int (↑(i + 1) : Int))], H := [AObj.box [AV.lit Value.nilFunc, AV.lit (Value.func (Fn.func 86) { toList := [] } { toList := [] }), AV.lit (Value.func (Fn.func 89) { toList := [] } { toList := [] }), AV.fn (Fn.func 90) [] [AV.ptr 1 0]], AObj.box [AV.ptr 0 0], AObj.box [int 3, int n0, str s0, AV.sl 4 false (encL l)], AObj.arr g' 1 false ys] } ex s')))) : RunL P G none 2 (loopAt P 90 0) (wzSt xs N g n0 s0 l i) ex s' := by
  obtain ⟨o2, h⟩ := h
  obtain ⟨o3, h⟩ := h
  obtain ⟨o4, h⟩ := h
  exact loop_next [kt (show decide ((↑i : Int) < (↑(List.length l) : Int)) = true from (decide_eq_true (by omega))), ko (Orc.elem (enc (CV.mk 2 n s m))), kp (show (0 : Int) ≤ (↑i : Int) ∧ (encL l)[Int.toNat (↑i : Int)]? = some (enc (CV.mk 2 n s m)) from (by rw [Go.Cdc.encL_map]; exact el_nat hx)), kp o2, kc [3] (@hv ), kp o3, kp o4, kv 33 (show Am.Sub (int (IntKind.wrap IntKind.i64 ((↑i : Int) + 1))) (int (↑(i + 1) : Int)) from (Sub.of_wrap (by omega) (by omega) (by omega))), kp (show ∀ (x : List AV), x ∈ ys → AV.idsInL [] x = true from (by omega))] (others 35 [0, 2, 17, 18, 19]) 4 h (by kernel_rfl)


theorem wz_step3 (xs ys : List (List AV)) (N M g g' : Nat) (n0 : Int) (s0 : ByteArray) (l : List CV) (i : Nat) (n : Int) (s : ByteArray) (m : List CV) (hi : i < l.length) (hl : l.length ≤ 9223372036854775807) (hx : l[i]? = some (.mk 3 n s m)) (hv : CallC P G 90 [.own 0 g 0 N, vmk 3 n s m, .ptr 2 0] (.arr g 1 false xs :: kinds 1 2) (.ret (.own 0 g' 0 M)) (.arr g' 1 false ys :: kinds 1 2)) (ex : AEx) (s' : St) (h : (((0 : Int) ≤ CV.k (CV.mk 3 n s m) ∧ CV.k (CV.mk 3 n s m) < (4 : Int)) ∧ ((∀ (x : List AV), x ∈ ys → AV.idsInL [] x = true) ∧ ((∀ (x : List AV), x ∈ xs → AV.idsInL [] x = true) ∧ RunL P G none 2 (loopAt P 90 0) { env := slots 35 [(0, AV.own 3 g' 0 M), (2, AV.ptr 1 0), (17, AV.sl 4 false (encL l)), (18, int (↑(List.length l) : Int)), (19, int (↑(i + 1) : Int))], H := [AObj.box [AV.lit Value.nilFunc, AV.lit (Value.func (Fn.func 86) { toList := [] } { toList := [] }), AV.lit (Value.func (Fn.func 89) { toList := [] } { toList := [] }), AV.fn (Fn.func 90) [] [AV.ptr 1 0]], AObj.box [AV.ptr 0 0], AObj.box [int 3, int n0, str s0, AV.sl 4 false (encL l)], AObj.arr g' 1 false ys] } ex s')))) : RunL P G none 2 (loopAt P 90 0) (wzSt xs N g n0 s0 l i) ex s' := by
  obtain ⟨o2, h⟩ := h
  obtain ⟨o3, h⟩ := h
  obtain ⟨o4, h⟩ := h
  exact loop_next [kt (show decide ((↑i : Int) < (↑(List.length l) : Int)) = true from (decide_eq_true (by omega))), ko (Orc.elem (enc (CV.mk 3 n s m))), kp (show (0 : Int) ≤ (↑i : Int) ∧ (encL l)[Int.toNat (↑i : Int)]? = some (enc (CV.mk 3 n s m)) from (by rw [Go.Cdc.encL_map]; exact el_nat hx)), kp o2, kc [3, 0, 1] (@hv ), kp o3, kp o4, kv 33 (show Am.Sub (int (IntKind.wrap IntKind.i64 ((↑i : Int) + 1))) (int (↑(i + 1) : Int)) from (Sub.of_wrap (by omega) (by omega) (by omega))), kp (show ∀ (x : List AV), x ∈ ys → AV.idsInL [] x = true from (by omega))] (others 35 [0, 2, 17, 18, 19]) 4 h (by kernel_rfl)


theorem w3_nil (b : List UInt8) (g' : Nat) (n : Int) (s : ByteArray) (l : List CV) (hs : l.length ≤ 10000000) (hL : RunL P G none 2 (loopAt P 90 0) (wzSt ([.lit (.int .u8 3)] :: bys (num (l.length % 18446744073709551616))) (1 + (num (l.length % 18446744073709551616)).length) (0 + (num (l.length % 18446744073709551616)).length) n s l 0) (.exit 0) { env := slots 35 [(0, .own 3 g' 0 b.length)], H := kinds 0 1 ++ [.box [int 3, int n, str s, .sl 4 false (encL l)], .arr g' 1 false (bys b)] }) (h : True) : CallC P G 90 [nilS, vmk 3 n s l, AV.ptr 1 0] (kinds 0 1) (AOut.ret (byt b)) (kinds 0 1) := by
  have hz2 : Am.Sub (int (↑(List.length (encL l)) : Int)) (int (↑(List.length l) : Int)) := (Sub.of_eq (by simp only [Go.Cdc.encL_length]))
  have _ := h
  exact callC_of [kp (show [[AV.lit (Value.int IntKind.u8 3)]] ≠ [] from (by simp)), kp (show 1 ≤ 140737488355328 from (by omega)), kv 13 hz2, kc [3] (@Go.Cdc.numeral_n ([[AV.lit (Value.int IntKind.u8 3)]]) (0) (List.length l % 18446744073709551616) (1) (rfl) (by omega) (by simp only [List.length_append, List.length_cons, List.length_nil, List.length_map, Go.Cdc.bys_length, Go.Cdc.bys_ids, Go.Cdc.bys_pure, Go.Cdc.encL_length] <;> omega) (by exact (Am.allm_cons rfl Am.allm_nil))), kp (show ∀ (x : List AV), x ∈ [[AV.lit (Value.int IntKind.u8 3)]] ++ bys (num (List.length l % 18446744073709551616)) → AV.idsInL [] x = true from (by exact (Am.allm_append (Am.allm_cons rfl Am.allm_nil) (Go.Cdc.bys_ids _)))), kp (show ∀ (x : List AV), x ∈ chunks (TypeInfo.size (Tables.types (Program.toTables P))[5]) 1 (splice (zerosA (List.map AV.lit (Array.toList (Value.cells (Value.int IntKind.u8 0)))) (1 * TypeInfo.size (Tables.types (Program.toTables P))[5])) (0 * TypeInfo.size (Tables.types (Program.toTables P))[5]) [AV.lit (Value.int IntKind.u8 3)]) → AV.idsInL [] x = true from (by exact (Am.allm_cons rfl Am.allm_nil))), kv 18 hz2, kl [1, 3, 4, 5, 6, 7, 8, 9, 10, 11, 12, 13, 14, 15, 16, 20, 21, 22, 23, 24, 25, 26, 27, 28, 29, 30, 31, 32, 33, 34] 4 (@hL ), ko (Orc.frz (bys b)), kp (show g' = g' from (rfl)), kp (show List.take (List.length b) (List.drop 0 (bys b)) = bys b from (by rw [List.drop_zero, List.take_of_length_le (by simp only [List.length_append, List.length_cons, List.length_nil, List.length_map, Go.Cdc.bys_length, Go.Cdc.bys_ids, Go.Cdc.bys_pure, Go.Cdc.encL_length] <;> omega)])), kp (show List.length (bys b) = List.length b from (Go.Cdc.bys_length _)), kp (show ∀ (c : List AV), c ∈ bys b → List.all c AV.pureB = true from (Go.Cdc.bys_pure _))] (by kernel_rfl)


theorem enc_bad (v : CV) (e : Int) (hv : CallC P G 62 [val v] [] (.ret (int e)) []) (he : e ≠ 0) (h : True) : CallC P G 30 [val v] [] (AOut.ret (AV.tup [nilS, int e])) [] := by
  have _ := h
  exact callC_of [kc [] (@hv ), kt (show (e != 0) = true from (congrArg Bool.not (decide_eq_false (by omega))))] (by kernel_rfl)


theorem enc_1 (n : Int) (s : ByteArray) (l : List CV) (b : List UInt8) (hv : CallC P G 62 [vmk 1 n s l] [] (.ret (int 0)) []) (hw : CallC P G 86 [nilS, vmk 1 n s l] [] (.ret (byt b)) []) (h : True) : CallC P G 30 [vmk 1 n s l] [] (AOut.ret (AV.tup [byt b, int 0])) [] := by
  have _ := h
  exact callC_of [kc [] (@hv ), kf (Eq.refl false), kc [] (@Go.Cdc.nw_w (trivial)), kp (show (0 : Int) ≤ (1 : Int) ∧ (1 : Int) < (4 : Int) from (by omega)), kc [] (@hw )] (by kernel_rfl)


theorem enc_2 (n : Int) (s : ByteArray) (l : List CV) (b : List UInt8) (hv : CallC P G 62 [vmk 2 n s l] [] (.ret (int 0)) []) (hw : CallC P G 89 [nilS, vmk 2 n s l] [] (.ret (byt b)) []) (h : True) : CallC P G 30 [vmk 2 n s l] [] (AOut.ret (AV.tup [byt b, int 0])) [] := by
  have _ := h
  exact callC_of [kc [] (@hv ), kf (Eq.refl false), kc [] (@Go.Cdc.nw_w (trivial)), kp (show (0 : Int) ≤ (2 : Int) ∧ (2 : Int) < (4 : Int) from (by omega)), kc [] (@hw )] (by kernel_rfl)


theorem enc_3 (n : Int) (s : ByteArray) (l : List CV) (b : List UInt8) (hv : CallC P G 62 [vmk 3 n s l] [] (.ret (int 0)) []) (hw : CallC P G 90 [nilS, vmk 3 n s l, .ptr 1 0] (kinds 0 1) (.ret (byt b)) (kinds 0 1)) (h : True) : CallC P G 30 [vmk 3 n s l] [] (AOut.ret (AV.tup [byt b, int 0])) [] := by
  have _ := h
  exact callC_of [kc [] (@hv ), kf (Eq.refl false), kc [] (@Go.Cdc.nw_w (trivial)), kp (show (0 : Int) ≤ (3 : Int) ∧ (3 : Int) < (4 : Int) from (by omega)), kc [1, 2] (@hw )] (by kernel_rfl)


end Go.Cdc

/- CODEC, 8: what the program writes. -/
namespace Go.Cdc
set_option maxRecDepth 100000
set_option linter.unusedSimpArgs false
set_option linter.unusedVariables false
open Go Go.Am Go.Proofs Go.Seat

theorem encBL_nil : encBL [] = [] := rfl
theorem encBL_cons (v : CV) (l : List CV) : encBL (v :: l) = encB v ++ encBL l := rfl
theorem encB_pos (v : CV) : 1 ≤ (encB v).length := by
  cases v; simp only [encB]; split
  · simp
  · split <;> simp
theorem encBL_len : ∀ l : List CV, l.length ≤ (encBL l).length
  | [] => by simp [encBL]
  | v :: l => by
    have := encBL_len l; have := encB_pos v
    simp only [encBL, List.length_append, List.length_cons]; omega
theorem own_eq {i g g' n n' : Nat} (hg : g = g') (hn : n = n') : Sub (.own i g 0 n) (.own i g' 0 n') := .of_eq (by rw [hg, hn])
theorem arr_eq {g g' : Nat} {xs ys : List (List AV)} (hg : g = g') (hn : xs = ys) : [AObj.arr g 1 false xs] = [AObj.arr g' 1 false ys] := by rw [hg, hn]
theorem bys_cons (c : UInt8) (l : List UInt8) : bys (c :: l) = [AV.lit (.int .u8 c.toNat)] :: bys l := rfl
theorem bys_app (a b : List UInt8) : bys (a ++ b) = bys a ++ bys b := (bys_append a b).symm

/-- The writers' contract. -/
def WrC (v : CV) : Prop := ∀ (a : List UInt8) (g : Nat), a.length + (encB v).length ≤ 10000000 →
  (v.k = 1 → CallC P G 86 [.own 0 g 0 a.length, val v] [.arr g 1 false (bys a)] (.ret (.own 0 (g + gens v) 0 (a ++ encB v).length)) [.arr (g + gens v) 1 false (bys (a ++ encB v))]) ∧
  (v.k = 2 → CallC P G 89 [.own 0 g 0 a.length, val v] [.arr g 1 false (bys a)] (.ret (.own 0 (g + gens v) 0 (a ++ encB v).length)) [.arr (g + gens v) 1 false (bys (a ++ encB v))]) ∧
  (v.k = 3 → CallC P G 90 [.own 0 g 0 a.length, val v, .ptr 2 0] (.arr g 1 false (bys a) :: kinds 1 2) (.ret (.own 0 (g + gens v) 0 (a ++ encB v).length)) (.arr (g + gens v) 1 false (bys (a ++ encB v)) :: kinds 1 2))

theorem wf_k {v : CV} (h : wf v = true) : v.k = 1 ∨ v.k = 2 ∨ v.k = 3 := by
  cases v with
  | mk k n s l =>
    simp only [CV.k]
    by_cases h1 : k = 1
    · exact .inl h1
    · by_cases h2 : k = 2
      · exact .inr (.inl h2)
      · by_cases h3 : k = 3
        · exact .inr (.inr h3)
        · simp [wf, h1, h2, h3] at h
theorem wfL_mem : ∀ {l : List CV}, wfL l = true → ∀ x ∈ l, wf x = true
  | [], _, x, hx => by cases hx
  | v :: l, h, x, hx => by
    simp only [wfL, Bool.and_eq_true] at h
    rcases List.mem_cons.1 hx with rfl | hx
    · exact h.1
    · exact wfL_mem h.2 x hx

theorem kinds_len : (kinds 1 2).length = 2 := rfl

theorem wr_loop (n0 : Int) (s0 : ByteArray) (l : List CV) (hl : l.length ≤ 9223372036854775807) (hw : ∀ x ∈ l, wf x = true) (hv : ∀ x ∈ l, WrC x) : ∀ (m i : Nat) (a : List UInt8) (g : Nat), l.length - i = m → i ≤ l.length → a.length + (encBL (l.drop i)).length ≤ 10000000 →
    RunL P G none 3 (loopAt P 90 0) (wrSt (bys a) a.length g n0 s0 l i) (.exit 0) { env := slots 35 [(0, .own 0 (g + gensL (l.drop i)) 0 (a ++ encBL (l.drop i)).length)], H := .arr (g + gensL (l.drop i)) 1 false (bys (a ++ encBL (l.drop i))) :: (kinds 1 2 ++ [.box [int 3, int n0, str s0, .sl 4 false (encL l)]]) } := by
  intro m
  induction m with
  | zero =>
    intro i a g hm hi hlen
    rw [List.drop_of_length_le (by omega)]
    simp only [encBL, gensL, Nat.add_zero, List.append_nil]
    exact wr_end (bys a) a.length g n0 s0 l i (by omega) trivial
  | succ m ih =>
    intro i a g hm hi hlen
    have hlt : i < l.length := by omega
    have e := List.drop_eq_getElem_cons hlt
    have hx : l[i]? = some l[i] := List.getElem?_eq_getElem hlt
    have hwx := hw _ (List.getElem_mem hlt)
    have hvx := hv _ (List.getElem_mem hlt)
    rw [e] at hlen ⊢
    simp only [encBL, gensL, List.length_append] at hlen ⊢
    have hc := hvx a g (by omega)
    have hn := ih (i + 1) (a ++ encB l[i]) (g + gens l[i]) (by omega) (by omega) (by rw [List.length_append]; omega)
    rw [List.append_assoc, Nat.add_assoc] at hn
    simp only [List.length_append] at hn hc
    generalize l[i] = x at *
    cases x with
    | mk k n s q =>
      rcases wf_k hwx with h | h | h
      · simp only [CV.k] at h
        subst h
        exact wr_step1 _ _ _ _ _ _ n0 s0 l i n s q hlt hl hx (hc.1 rfl) _ _ ⟨⟨by simp only [CV.k]; decide, by simp only [CV.k]; decide⟩, bys_ids _, bys_ids _, hn⟩
      · simp only [CV.k] at h
        subst h
        exact wr_step2 _ _ _ _ _ _ n0 s0 l i n s q hlt hl hx (hc.2.1 rfl) _ _ ⟨⟨by simp only [CV.k]; decide, by simp only [CV.k]; decide⟩, bys_ids _, bys_ids _, hn⟩
      · simp only [CV.k] at h
        subst h
        exact wr_step3 _ _ _ _ _ _ n0 s0 l i n s q hlt hl hx (hc.2.2 rfl) _ _ ⟨⟨by simp only [CV.k]; decide, by simp only [CV.k]; decide⟩, bys_ids _, bys_ids _, hn⟩

theorem wz_loop (n0 : Int) (s0 : ByteArray) (l : List CV) (hl : l.length ≤ 9223372036854775807) (hw : ∀ x ∈ l, wf x = true) (hv : ∀ x ∈ l, WrC x) : ∀ (m i : Nat) (a : List UInt8) (g : Nat), l.length - i = m → i ≤ l.length → a.length + (encBL (l.drop i)).length ≤ 10000000 →
    RunL P G none 2 (loopAt P 90 0) (wzSt (bys a) a.length g n0 s0 l i) (.exit 0) { env := slots 35 [(0, .own 3 (g + gensL (l.drop i)) 0 (a ++ encBL (l.drop i)).length)], H := kinds 0 1 ++ [.box [int 3, int n0, str s0, .sl 4 false (encL l)], .arr (g + gensL (l.drop i)) 1 false (bys (a ++ encBL (l.drop i)))] } := by
  intro m
  induction m with
  | zero =>
    intro i a g hm hi hlen
    rw [List.drop_of_length_le (by omega)]
    simp only [encBL, gensL, Nat.add_zero, List.append_nil]
    exact wz_end (bys a) a.length g n0 s0 l i (by omega) trivial
  | succ m ih =>
    intro i a g hm hi hlen
    have hlt : i < l.length := by omega
    have e := List.drop_eq_getElem_cons hlt
    have hx : l[i]? = some l[i] := List.getElem?_eq_getElem hlt
    have hwx := hw _ (List.getElem_mem hlt)
    have hvx := hv _ (List.getElem_mem hlt)
    rw [e] at hlen ⊢
    simp only [encBL, gensL, List.length_append] at hlen ⊢
    have hc := hvx a g (by omega)
    have hn := ih (i + 1) (a ++ encB l[i]) (g + gens l[i]) (by omega) (by omega) (by rw [List.length_append]; omega)
    rw [List.append_assoc, Nat.add_assoc] at hn
    simp only [List.length_append] at hn hc
    generalize l[i] = x at *
    cases x with
    | mk k n s q =>
      rcases wf_k hwx with h | h | h
      · simp only [CV.k] at h
        subst h
        exact wz_step1 _ _ _ _ _ _ n0 s0 l i n s q hlt hl hx (hc.1 rfl) _ _ ⟨⟨by simp only [CV.k]; decide, by simp only [CV.k]; decide⟩, bys_ids _, bys_ids _, hn⟩
      · simp only [CV.k] at h
        subst h
        exact wz_step2 _ _ _ _ _ _ n0 s0 l i n s q hlt hl hx (hc.2.1 rfl) _ _ ⟨⟨by simp only [CV.k]; decide, by simp only [CV.k]; decide⟩, bys_ids _, bys_ids _, hn⟩
      · simp only [CV.k] at h
        subst h
        exact wz_step3 _ _ _ _ _ _ n0 s0 l i n s q hlt hl hx (hc.2.2 rfl) _ _ ⟨⟨by simp only [CV.k]; decide, by simp only [CV.k]; decide⟩, bys_ids _, bys_ids _, hn⟩

theorem u64mod {n : Nat} (h : n ≤ 10000000) : n % 18446744073709551616 = n := Nat.mod_eq_of_lt (by omega)

theorem wrC_all (v : CV) : Okv v → wf v = true → WrC v := by
  refine CV.ind (p := fun v => Okv v → wf v = true → WrC v) (fun k n s l ih hok hwf => ?_) v
  cases hok with
  | mk _ _ _ _ hn hs hl hall =>
    intro a g hlen
    refine ⟨fun hk => ?_, fun hk => ?_, fun hk => ?_⟩
    · simp only [CV.k] at hk
      subst hk
      have e1 : encB (.mk 1 n s l) = 1 :: num (uns n) := by simp [encB]
      have e2 : gens (.mk 1 n s l) = 1 + (num (uns n)).length := by simp [gens]
      rw [e1] at hlen ⊢
      rw [e2]
      refine w1_own a g n s l hn (uns_lt hn) (by omega) ⟨own_eq (by omega) (by simp only [List.length_append, List.length_cons]; omega), arr_eq (by omega) ?_⟩
      rw [bys_app, bys_cons, List.append_assoc]; rfl
    · simp only [CV.k] at hk
      subst hk
      have e1 : encB (.mk 2 n s l) = 2 :: (num s.size ++ s.data.toList) := by simp [encB]
      have e2 : gens (.mk 2 n s l) = 2 + (num s.size).length := by simp [gens]
      rw [e1] at hlen ⊢
      rw [e2]
      simp only [List.length_append, List.length_cons, bdata_length] at hlen
      have em := u64mod (n := s.size) (by omega)
      refine w2_own a g n s l (by omega) (by omega) ⟨?_, own_eq ?_ ?_, arr_eq ?_ ?_⟩ <;> rw [em]
      · simp only [List.length_map, bdata_length]; omega
      · omega
      · simp only [List.length_map, bdata_length, List.length_append, List.length_cons]; omega
      · omega
      · rw [bys_app, bys_cons, bys_app]; simp only [List.append_assoc]; rfl
    · simp only [CV.k] at hk
      subst hk
      have e1 : encB (.mk 3 n s l) = 3 :: (num l.length ++ encBL l) := by simp [encB]
      have e2 : gens (.mk 3 n s l) = 1 + (num l.length).length + gensL l := by simp [gens]
      have ew : wf (.mk 3 n s l) = (decide (n = 0) && decide (s = .empty) && wfL l) := by simp [wf]
      rw [ew] at hwf
      simp only [Bool.and_eq_true] at hwf
      rw [e1] at hlen ⊢
      rw [e2]
      simp only [List.length_append, List.length_cons] at hlen
      have hll := encBL_len l
      have em := u64mod (n := l.length) (by omega)
      have hL := wr_loop n s l hl (wfL_mem hwf.2) (fun x hx => ih x hx (hall x hx) (wfL_mem hwf.2 x hx)) l.length 0 (a ++ 3 :: num l.length) (g + 1 + (num l.length).length) (by omega) (by omega) (by rw [List.drop_zero]; simp only [List.length_append, List.length_cons]; omega)
      rw [List.drop_zero, List.append_assoc, List.cons_append] at hL
      have eg : g + (1 + (num l.length).length + gensL l) = g + 1 + (num l.length).length + gensL l := by omega
      rw [eg]
      refine w3_own a (a ++ 3 :: (num l.length ++ encBL l)) g _ n s l (by omega) (by omega) ?_ trivial
      rw [em]
      have e3 : bys a ++ [[AV.lit (.int .u8 3)]] ++ bys (num l.length) = bys (a ++ 3 :: num l.length) := by
        rw [bys_app, bys_cons, List.append_assoc]; rfl
      have e4 : a.length + 1 + (num l.length).length = (a ++ 3 :: num l.length).length := by simp only [List.length_append, List.length_cons]; omega
      rw [e3, e4]
      exact hL

theorem encode_ok (v : CV) (hok : Okv v) (hd : dp v ≤ 16) (hwf : wf v = true) (hlen : (encB v).length ≤ 10000000) : CallC P G 30 [val v] [] (.ret (.tup [byt (encB v), int 0])) [] := by
  have hc := check_c v hok (by omega)
  have e0 : chkE v = 0 := by simp only [chkE, hwf, if_true]; rw [if_neg (by omega)]
  rw [e0] at hc
  have hk := wf_k hwf
  cases v with
  | mk k n s l =>
    cases hok with
    | mk _ _ _ _ hn hs hl hall =>
      simp only [CV.k] at hk
      rcases hk with rfl | rfl | rfl
      · have e1 : encB (.mk 1 n s l) = 1 :: num (uns n) := by simp [encB]
        rw [e1]
        exact enc_1 n s l _ hc (w1_nil n s l hn (uns_lt hn) trivial) trivial
      · have e1 : encB (.mk 2 n s l) = 2 :: (num s.size ++ s.data.toList) := by simp [encB]
        rw [e1] at hlen ⊢
        simp only [List.length_append, List.length_cons, bdata_length] at hlen
        have em := u64mod (n := s.size) (by omega)
        refine enc_2 n s l _ hc (w2_nil n s l (by omega) ⟨?_, ?_⟩) trivial <;> rw [em]
        · simp only [List.length_map, bdata_length]; omega
        · rw [bys_cons, bys_app]; rfl
      · have e1 : encB (.mk 3 n s l) = 3 :: (num l.length ++ encBL l) := by simp [encB]
        have ew : wf (.mk 3 n s l) = (decide (n = 0) && decide (s = .empty) && wfL l) := by simp [wf]
        rw [ew] at hwf
        simp only [Bool.and_eq_true] at hwf
        rw [e1] at hlen ⊢
        simp only [List.length_append, List.length_cons] at hlen
        have hll := encBL_len l
        have em := u64mod (n := l.length) (by omega)
        have hL := wz_loop n s l hl (wfL_mem hwf.2) (fun x hx => wrC_all x (hall x hx) (wfL_mem hwf.2 x hx)) l.length 0 (3 :: num l.length) (0 + (num l.length).length) (by omega) (by omega) (by rw [List.drop_zero]; simp only [List.length_cons]; omega)
        rw [List.drop_zero, List.cons_append] at hL
        refine enc_3 n s l _ hc (w3_nil (3 :: (num l.length ++ encBL l)) (0 + (num l.length).length + gensL l) n s l (by omega) ?_ trivial) trivial
        rw [em]
        have e4 : 1 + (num l.length).length = (3 :: num l.length).length := by simp only [List.length_cons]; omega
        rw [e4]
        exact hL
theorem encode_bad (v : CV) (hok : Okv v) (hd : dp v ≤ 1000001) (h : chkE v ≠ 0) : CallC P G 30 [val v] [] (.ret (.tup [nilS, int (chkE v)])) [] := enc_bad v _ (check_c v hok hd) h trivial

/-- Encode's answer. -/
def encE (v : CV) : List UInt8 := if chkE v = 0 then encB v else []
theorem chkE_0 {v : CV} (h : chkE v = 0) : wf v = true ∧ dp v ≤ 16 := by
  unfold chkE at h
  split at h
  · next hw =>
    refine ⟨hw, ?_⟩
    split at h
    · cases h
    · omega
  · cases h
theorem encode_c (v : CV) (hok : Okv v) (hd : dp v ≤ 1000001) (hlen : chkE v = 0 → (encB v).length ≤ 10000000) : CallC P G 30 [val v] [] (.ret (.tup [byt (encE v), int (chkE v)])) [] := by
  by_cases h : chkE v = 0
  · have := chkE_0 h
    unfold encE
    rw [if_pos h, h]
    exact encode_ok v hok this.2 this.1 (hlen h)
  · have := encode_bad v hok hd h
    unfold encE
    rw [if_neg h]
    exact CallC.out this (.tup2 (.nil 1) (.refl _))
end Go.Cdc
