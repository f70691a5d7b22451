import Derived.Test.YtkckmpmlbmdalaaDoorJ13
/- OPS, 29: OpsOrder. -/
namespace Go.Ops
set_option maxRecDepth 100000
set_option linter.unusedSimpArgs false
set_option linter.unusedVariables false
open Go Go.Am Go.Proofs Go.Seat Go.Vec Go.Cdc

theorem cb_neg : ∀ x y : List UInt8, Lib.compareBytes y x = -Lib.compareBytes x y
  | [], [] => by simp [Lib.compareBytes]
  | [], _ :: _ => by simp [Lib.compareBytes]
  | _ :: _, [] => by simp [Lib.compareBytes]
  | a :: xs, b :: ys => by
    have ih := cb_neg xs ys
    simp only [Lib.compareBytes]
    by_cases h1 : a < b
    · have h2 : ¬ b < a := UInt8.not_lt.2 (UInt8.le_of_lt h1)
      simp [h1, h2]
    · by_cases h2 : b < a
      · simp [h1, h2]
      · simp [h1, h2, ih]
theorem cb_trans : ∀ x y z : List UInt8, Lib.compareBytes x y ≤ 0 → Lib.compareBytes y z ≤ 0 → Lib.compareBytes x z ≤ 0
  | [], _, [] => by simp [Lib.compareBytes]
  | [], _, _ :: _ => by simp [Lib.compareBytes]
  | _ :: _, [], _ => by simp [Lib.compareBytes]
  | _ :: _, _ :: _, [] => by simp [Lib.compareBytes]
  | a :: xs, b :: ys, c :: zs => by
    have ih := cb_trans xs ys zs
    have ha : a < b ↔ a.toNat < b.toNat := UInt8.lt_iff_toNat_lt
    have hb : b < a ↔ b.toNat < a.toNat := UInt8.lt_iff_toNat_lt
    have hc : b < c ↔ b.toNat < c.toNat := UInt8.lt_iff_toNat_lt
    have hd : c < b ↔ c.toNat < b.toNat := UInt8.lt_iff_toNat_lt
    have he : a < c ↔ a.toNat < c.toNat := UInt8.lt_iff_toNat_lt
    have hf : c < a ↔ c.toNat < a.toNat := UInt8.lt_iff_toNat_lt
    simp only [Lib.compareBytes, ha, hb, hc, hd, he, hf]
    grind
theorem cmpOV_range (a b : OP) (x y : List UInt8) : cmpOV a b x y = -1 ∨ cmpOV a b x y = 0 ∨ cmpOV a b x y = 1 := by
  have := cmp_range x y
  simp only [cmpOV, orV, cmpV]
  grind
theorem cmpOV_neg (a b : OP) (x y : List UInt8) : cmpOV b a y x = -cmpOV a b x y := by
  have := cb_neg x y
  simp only [cmpOV, orV, cmpV]
  grind
theorem cmpOV_trans (a b c : OP) (x y z : List UInt8) (h1 : cmpOV a b x y ≤ 0) (h2 : cmpOV b c y z ≤ 0) : cmpOV a c x z ≤ 0 := by
  have := cb_trans x y z
  rcases Int.lt_trichotomy a.tm b.tm with t1 | t1 | t1 <;> rcases Int.lt_trichotomy b.tm c.tm with t2 | t2 | t2 <;>
    rcases Int.lt_trichotomy a.dv b.dv with d1 | d1 | d1 <;> rcases Int.lt_trichotomy b.dv c.dv with d2 | d2 | d2 <;>
    simp only [cmpOV, orV, cmpV] at h1 h2 ⊢ <;> grind (splits := 30)
theorem cmpOV_tm {a b : OP} {x y : List UInt8} (h : a.tm < b.tm) : cmpOV a b x y = -1 := by
  simp only [cmpOV, orV, cmpV]
  grind
theorem cmpOV_eq {a b : OP} {x y : List UInt8} (h : cmpOV a b x y = 0) : x = y := by
  have := cmp_eq0 x y
  simp only [cmpOV, orV, cmpV] at h
  grind

end Go.Ops

/- OPS, 30: OpsOrder holds. -/
namespace Go.Ops
set_option maxRecDepth 100000
set_option linter.unusedSimpArgs false
set_option linter.unusedVariables false
open Go Go.Am Go.Proofs Go.Seat Go.Vec Go.Cdc

/-- OpsOrder. -/
theorem spec_order (a b c : OP) (ka : Okp a ∧ Sz a) (kb : Okp b ∧ Sz b) (kc : Okp c ∧ Sz c) : CallC P G 7 [op a, op b, op c] [] (.ret (bool true)) [] := by
  have fa := few_c a ka.2
  have fb := few_c b kb.2
  have fc := few_c c kc.2
  cases qa : fewO a with
  | false => rw [qa] at fa; exact ord_fa a b c sane_c fa trivial
  | true =>
  rw [qa] at fa
  cases qb : fewO b with
  | false => rw [qb] at fb; exact ord_fb a b c sane_c fa fb trivial
  | true =>
  rw [qb] at fb
  cases qc : fewO c with
  | false => rw [qc] at fc; exact ord_fc a b c sane_c fa fb fc trivial
  | true =>
  rw [qc] at fc
  have na := fewO_few qa
  have nb := fewO_few qb
  have nc := fewO_few qc
  have ca := check_c a (ka.1.okn (by decide) na)
  have cb := check_c b (kb.1.okn (by decide) nb)
  have cc := check_c c (kc.1.okn (by decide) nc)
  rcases chk01 a with ha | ha <;> rw [ha] at ca
  case inr => exact ord_ca a b c sane_c fa fb fc ca trivial
  rcases chk01 b with hb | hb <;> rw [hb] at cb
  case inr => exact ord_cb a b c sane_c fa fb fc ca cb trivial
  rcases chk01 c with hc | hc <;> rw [hc] at cc
  case inr => exact ord_cc a b c sane_c fa fb fc ca cb cc trivial
  have ea := enc_c a (by decide) ka.1 na
  have eb := enc_c b (by decide) kb.1 nb
  have ec := enc_c c (by decide) kc.1 nc
  rw [encO, if_pos ha] at ea
  rw [encO, if_pos hb] at eb
  rw [encO, if_pos hc] at ec
  have m1 := cmp_c a b _ _ _ _ ea eb
  have m2 := cmp_c b c _ _ _ _ eb ec
  have m3 := cmp_c a c _ _ _ _ ea ec
  have m4 := cmp_c b a _ _ _ _ eb ea
  have ms := rsame_c a b (by have := fewO_cx qa; omega)
  have neg := cmpOV_neg a b (encB (opV a)) (encB (opV b))
  have negs := cmpOV_neg b c (encB (opV b)) (encB (opV c))
  have neg3 := cmpOV_neg a c (encB (opV a)) (encB (opV c))
  have tr := cmpOV_trans a b c (encB (opV a)) (encB (opV b)) (encB (opV c))
  have tr' := cmpOV_trans c b a (encB (opV c)) (encB (opV b)) (encB (opV a))
  have eq : a = b ↔ cmpOV a b (encB (opV a)) (encB (opV b)) = 0 := by
    constructor
    · intro e; subst e
      unfold cmpOV
      rw [if_pos (by simp [orV, cmpV])]
      exact (cmp_eq0 _ _).2 rfl
    · intro e
      exact opV_inj (enc_inj (opV_wf a) (opV_wf b) (opV_ok (by decide) ka.1 na) (opV_ok (by decide) kb.1 nb) (by have := opV_dp a; omega) (by have := opV_dp b; omega) (cmpOV_eq e))
  have tm := @cmpOV_tm a b (encB (opV a)) (encB (opV b))
  rcases cmpOV_range a b (encB (opV a)) (encB (opV b)) with h | h | h
  · have s : decide (a = b) = false := by rw [decide_eq_false_iff_not, eq, h]; decide
    exact ord_lt a b c sane_c fa fb fc _ _ _ _ _ ca cb cc m1 m2 m3 m4 ms h (by omega) s (by omega) (by rw [h, s]; simp)
  · have s : decide (a = b) = true := by rw [decide_eq_true_iff, eq, h]
    exact ord_eq a b c sane_c fa fb fc _ _ _ _ _ ca cb cc m1 m2 m3 m4 ms h (by omega) s (by omega) (by omega) (by omega) (by rw [h, s]; simp; omega)
  · have s : decide (a = b) = false := by rw [decide_eq_false_iff_not, eq, h]; decide
    exact ord_gt a b c sane_c fa fb fc _ _ _ _ _ ca cb cc m1 m2 m3 m4 ms h (by omega) s (by omega) (by omega) (by rw [h, s]; simp; omega)

end Go.Ops
