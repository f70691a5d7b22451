/- CODEC, 14: what a reader accepts is an encoding. -/
import Derived.Test.YtbmimjjhifjofaaC13
namespace Go.Cdc
set_option linter.unusedSimpArgs false
set_option linter.unusedVariables false
open Go Go.Am Go.Proofs

theorem num_numN (u : Nat) : num u = numN 9 u := (numN_eq 9 u).symm
theorem ofNat_toNat (c : UInt8) : UInt8.ofNat c.toNat = c := UInt8.toNat_inj.1 (by rw [UInt8.toNat_ofNat']; exact Nat.mod_eq_of_lt c.toNat_lt)
theorem numN_small {f u : Nat} (h : u < 128) : numN f u = [UInt8.ofNat u] := by
  cases f with
  | zero => rfl
  | succ f => simp only [numN]; rw [if_pos h]
theorem pow_step (i : Nat) : 2 ^ (7 * (i + 1)) = 128 * 2 ^ (7 * i) := by rw [Nat.mul_add, Nat.pow_add]; omega
theorem numF_sound : ∀ (l : List UInt8) (u i : Nat), i ≤ 9 → (numF l u i).1 = true → ∃ X : Nat, (numF l u i).2.1 = u + X * 2 ^ (7 * i) ∧ l = numN (9 - i) X ++ (numF l u i).2.2 ∧ (i ≠ 0 → X ≠ 0)
  | [], u, i, hi, h => by simp [numF] at h
  | c :: r, u, i, hi, h => by
    have hc8 : c.toNat < 256 := c.toNat_lt
    by_cases hbad : (i ≠ 0 ∧ c.toNat = 0) ∨ (9 ≤ i ∧ 1 < c.toNat)
    · simp only [numF] at h; rw [if_pos hbad] at h; cases h
    · by_cases hc : c.toNat < 128
      · have e : numF (c :: r) u i = (true, u + c.toNat % 128 * 2 ^ (7 * i), r) := by simp only [numF]; rw [if_neg hbad, if_pos hc]
        rw [e]
        refine ⟨c.toNat, by rw [Nat.mod_eq_of_lt hc], ?_, fun hi0 => by omega⟩
        rw [numN_small hc, ofNat_toNat]; rfl
      · have e : numF (c :: r) u i = numF r (u + c.toNat % 128 * 2 ^ (7 * i)) (i + 1) := by
          simp only [numF]; rw [if_neg hbad, if_neg hc]
        rw [e] at h ⊢
        have hi8 : i ≤ 8 := by omega
        obtain ⟨X, h1, h2, h3⟩ := numF_sound r (u + c.toNat % 128 * 2 ^ (7 * i)) (i + 1) (by omega) h
        refine ⟨c.toNat % 128 + 128 * X, ?_, ?_, fun _ => ?_⟩
        · rw [h1, pow_step, Nat.add_assoc, Nat.add_mul]
          congr 2
          rw [← Nat.mul_assoc, Nat.mul_comm X 128]
        · have hX := h3 (by omega)
          rw [show 9 - i = (9 - (i + 1)) + 1 by omega]
          simp only [numN]
          rw [if_neg (by omega), show (c.toNat % 128 + 128 * X) / 128 = X by omega, show (c.toNat % 128 + 128 * X) % 128 + 128 = c.toNat by omega, ofNat_toNat, List.cons_append, ← h2]
        · have := h3 (by omega); omega
theorem numOk_sound {l : List UInt8} (h : numOk l = true) : l = num (numU l) ++ numR l := by
  obtain ⟨X, h1, h2, _⟩ := numF_sound l 0 0 (by omega) h
  rw [num_numN]
  have : numU l = X := by
    unfold numU; rw [h1]; simp
  rw [this]
  exact h2
theorem numF_num : ∀ (f X u i : Nat) (r : List UInt8), f + i = 9 → X * 2 ^ (7 * i) < 18446744073709551616 → (i ≠ 0 → X ≠ 0) → numF (numN f X ++ r) u i = (true, u + X * 2 ^ (7 * i), r)
  | 0, X, u, i, r, hf, hX, h0 => by
    have hi : i = 9 := by omega
    subst hi
    have e9 : 2 ^ (7 * 9) = 9223372036854775808 := by decide
    rw [e9] at hX ⊢
    have hc : X < 2 := by omega
    have := h0 (by omega)
    have e : X = 1 := by omega
    subst e
    rfl
  | f + 1, X, u, i, r, hf, hX, h0 => by
    have hpos : 0 < 2 ^ (7 * i) := Nat.pow_pos (by decide)
    simp only [numN]
    by_cases hc : X < 128
    · rw [if_pos hc]
      have e : (UInt8.ofNat X).toNat = X := by rw [UInt8.toNat_ofNat']; exact Nat.mod_eq_of_lt (by omega)
      simp only [List.cons_append, List.nil_append, numF]
      rw [e, if_neg (by omega), if_pos hc, Nat.mod_eq_of_lt hc]
    · rw [if_neg hc]
      have e : (UInt8.ofNat (X % 128 + 128)).toNat = X % 128 + 128 := by rw [UInt8.toNat_ofNat']; exact Nat.mod_eq_of_lt (by omega)
      simp only [List.cons_append, numF]
      have hsplit : X * 2 ^ (7 * i) = X % 128 * 2 ^ (7 * i) + X / 128 * 2 ^ (7 * (i + 1)) := by
        rw [pow_step, ← Nat.mul_assoc, ← Nat.add_mul]
        congr 1
        omega
      rw [e, if_neg (by omega), if_neg (by omega), show (X % 128 + 128) % 128 = X % 128 by omega]
      rw [numF_num f (X / 128) _ (i + 1) r (by omega) (by omega) (fun _ => by omega), Nat.add_assoc, ← hsplit]
theorem numF_num0 (u : Nat) (hu : u < 18446744073709551616) (r : List UInt8) : numOk (num u ++ r) = true ∧ numU (num u ++ r) = u ∧ numR (num u ++ r) = r := by
  have := numF_num 9 u 0 0 r (by omega) (by simpa using hu) (fun h => absurd rfl h)
  rw [← num_numN] at this
  simp only [numOk, numU, numR, this]
  simp

theorem uns_sgn {u : Nat} : uns (sgn u) = u := by
  unfold sgn uns
  split
  · rw [if_pos (by omega)]; omega
  · rw [if_neg (by omega)]; omega
theorem sgn_uns (n : Int) : sgn (uns n) = n := by
  unfold uns
  split
  · unfold sgn; rw [if_pos (by omega)]; omega
  · unfold sgn; rw [if_neg (by omega)]; omega
theorem sgn_range {u : Nat} (h : u < 18446744073709551616) : -9223372036854775808 ≤ sgn u ∧ sgn u < 9223372036854775808 := by
  unfold sgn; split <;> omega

/-- A value read well. -/
structure Good (d : Nat) (l : List UInt8) (v : CV) (r : List UInt8) : Prop where
  wf : wf v = true
  dp : dp v ≤ d
  ok : Okv v
  eq : l = encB v ++ r
theorem wfL_of {l : List CV} (h : ∀ x ∈ l, wf x = true) : wfL l = true := by
  induction l with
  | nil => rfl
  | cons a l ih => simp only [wfL, Bool.and_eq_true]; exact ⟨h a List.mem_cons_self, ih fun x hx => h x (List.mem_cons_of_mem _ hx)⟩
theorem dpL_of {l : List CV} {d : Nat} (h : ∀ x ∈ l, dp x ≤ d) : dpL l ≤ d := by
  induction l with
  | nil => exact Nat.zero_le _
  | cons a l ih =>
    simp only [dpL]
    have := h a List.mem_cons_self
    have := ih fun x hx => h x (List.mem_cons_of_mem _ hx)
    omega
theorem lstF_sound {d : Nat} {p : List UInt8 → Bool × CV × List UInt8} (hp : ∀ l : List UInt8, l.length ≤ 1000000000 → (p l).1 = true → Good d l (p l).2.1 (p l).2.2) : ∀ (n : Nat) (r : List UInt8), r.length ≤ 1000000000 → (lstF p n r).1 = true →
    (∀ x ∈ (lstF p n r).2.1, wf x = true ∧ dp x ≤ d ∧ Okv x) ∧ r = encBL (lstF p n r).2.1 ++ (lstF p n r).2.2
  | 0, r, _, _ => ⟨fun x hx => by simp [lstF] at hx, rfl⟩
  | n + 1, r, hr, h => by
    cases hok : (p r).1 with
    | false => simp [lstF, hok] at h
    | true =>
      have e : lstF p (n + 1) r = ((lstF p n (p r).2.2).1, (p r).2.1 :: (lstF p n (p r).2.2).2.1, (lstF p n (p r).2.2).2.2) := by simp [lstF, hok]
      rw [e] at h ⊢
      have hg := hp r hr hok
      have hlen : (p r).2.2.length ≤ 1000000000 := by
        have := congrArg List.length hg.eq
        rw [List.length_append] at this; omega
      obtain ⟨k1, k2⟩ := lstF_sound hp n (p r).2.2 hlen h
      refine ⟨fun x hx => ?_, ?_⟩
      · rcases List.mem_cons.1 hx with rfl | hx
        · exact ⟨hg.wf, hg.dp, hg.ok⟩
        · exact k1 x hx
      · show r = encBL ((p r).2.1 :: _) ++ _
        rw [encBL_cons, List.append_assoc, ← k2]
        exact hg.eq
theorem size_arr (l : List UInt8) : (⟨l.toArray⟩ : ByteArray).size = l.length := by simp [ByteArray.size]
theorem valS_sound {d : Nat} {deep : Bool} {p : List UInt8 → Bool × CV × List UInt8} (hp : deep = true → 1 ≤ d ∧ ∀ l : List UInt8, l.length ≤ 1000000000 → (p l).1 = true → Good (d - 1) l (p l).2.1 (p l).2.2) :
    ∀ l : List UInt8, l.length ≤ 1000000000 → (valS deep p l).1 = true → Good d l (valS deep p l).2.1 (valS deep p l).2.2
  | [], _, h => by simp [valS] at h
  | c :: r, hl, h => by
    have hr : r.length ≤ 999999999 := by simp at hl; omega
    have hU := numU_lt r
    by_cases h1 : c.toNat = 1
    · have hc : c = 1 := byte_eq h1
      rw [valS_1 h1] at h ⊢
      subst hc
      have hs := numOk_sound h
      refine ⟨by simp [mkI, wf], by simp [mkI, dp], .mk _ _ _ _ (sgn_range hU) (by decide) (by decide) (fun x hx => by cases hx), ?_⟩
      have e1 : encB (mkI (sgn (numU r))) = 1 :: num (uns (sgn (numU r))) := by simp [encB, mkI]
      rw [e1, uns_sgn, List.cons_append, ← hs]
    · by_cases h2 : c.toNat = 2
      · have hc : c = 2 := byte_eq h2
        rw [valS_2 h2] at h ⊢
        subst hc
        have hle := lenOk_le h
        simp only [lenOk, Bool.and_eq_true] at h
        have hs := numOk_sound h.1
        have hR := numR_le r
        have hsz : (⟨((numR r).take (numU r)).toArray⟩ : ByteArray).size = numU r := by rw [size_arr, List.length_take]; omega
        refine ⟨by simp [mkT, wf], by simp [mkT, dp], .mk _ _ _ _ (by decide) (by rw [hsz]; omega) (by decide) (fun x hx => by cases hx), ?_⟩
        have e1 : encB (mkT ⟨((numR r).take (numU r)).toArray⟩) = 2 :: (num (numU r) ++ (numR r).take (numU r)) := by
          simp only [mkT, encB]
          rw [if_neg (by decide), if_pos trivial, hsz]
        rw [e1, List.cons_append, List.append_assoc, List.take_append_drop, ← hs]
      · by_cases h3 : c.toNat = 3
        · have hc : c = 3 := byte_eq h3
          rw [valS_3 h3] at h ⊢
          subst hc
          split at h
          · rename_i hcond
            rw [if_pos hcond]
            obtain ⟨hd, hok⟩ := hcond
            obtain ⟨hd1, hpp⟩ := hp hd
            have hle := lenOk_le hok
            simp only [lenOk, Bool.and_eq_true] at hok
            have hs := numOk_sound hok.1
            have hR := numR_le r
            obtain ⟨k1, k2⟩ := lstF_sound hpp (numU r) (numR r) (by omega) h
            have hlen := lstF_len _ _ h
            refine ⟨?_, ?_, .mk _ _ _ _ (by decide) (by decide) (by rw [hlen]; omega) (fun x hx => (k1 x hx).2.2), ?_⟩
            · have : wfL (lstF p (numU r) (numR r)).2.1 = true := wfL_of fun x hx => (k1 x hx).1
              simp [mkL, wf, this]
            · have : dpL (lstF p (numU r) (numR r)).2.1 ≤ d - 1 := dpL_of fun x hx => (k1 x hx).2.1
              simp only [mkL, dp, if_true]; omega
            · have e1 : encB (mkL (lstF p (numU r) (numR r)).2.1) = 3 :: (num (numU r) ++ encBL (lstF p (numU r) (numR r)).2.1) := by
                simp only [mkL, encB]
                rw [if_neg (by decide), if_neg (by decide), hlen]
              rw [e1, List.cons_append, List.append_assoc, ← k2, ← hs]
          · cases h
        · rw [valS_x h1 h2 h3] at h; cases h
theorem valF_sound : ∀ (f : Nat) (l : List UInt8), l.length ≤ 1000000000 → (valF f l).1 = true → Good f l (valF f l).2.1 (valF f l).2.2
  | 0, l, hl, h => valS_sound (d := 0) (fun h => by cases h) l hl h
  | f + 1, l, hl, h => valS_sound (d := f + 1) (fun _ => ⟨by omega, valF_sound f⟩) l hl h

end Go.Cdc
