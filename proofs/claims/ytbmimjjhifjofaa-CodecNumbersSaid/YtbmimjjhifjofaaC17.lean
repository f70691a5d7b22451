/- CODEC, 17: the statements hold. -/
import Derived.Test.YtbmimjjhifjofaaC16
namespace Go.Cdc
set_option linter.unusedSimpArgs false
set_option linter.unusedVariables false
open Go Go.Am Go.Proofs

/-! The reference's Decode -/
theorem rdecode_c (l : List UInt8) (hl : l.length ≤ 10000000) : CallC P G 15 [byt l] [] (.ret (.tup [val (decV l), int (decE l)])) [] := by
  obtain ⟨a', v, h1, h2, h3⟩ := rvalF (b := l) (by omega) 16 0 (by omega) 0 (Nat.zero_le _)
  rw [List.drop_zero] at h2 h3
  cases hok : (valF 16 l).1 with
  | false =>
    rw [hok] at h3
    have hb : decB l = false := by simp [decB, hok]
    simp only [decV, decE, hb, Bool.false_eq_true, if_false]
    exact rdec_bad l a' v h3 trivial
  | true =>
    rw [hok] at h3
    obtain ⟨rfl, hr⟩ := h2 hok
    have hg := valF_sound 16 l (by omega) hok
    have hd : dp (valF 16 l).2.1 ≤ 1000001 := Nat.le_trans hg.dp (by decide)
    have hc := rcheck_c _ hg.ok hd
    have e0 : chkE (valF 16 l).2.1 = 0 := by
      have := hg.dp
      simp only [chkE, hg.wf, if_true]; rw [if_neg (by omega)]
    rw [e0] at hc
    have hlen : (encB (valF 16 l).2.1).length ≤ 10000000 := by
      have := congrArg List.length hg.eq
      rw [List.length_append] at this; omega
    have hw := renc_c _ hg.ok hlen
    have hlr : l.length - a' = (valF 16 l).2.2.length := by rw [← hr, List.length_drop]
    refine rdec_w l a' _ false 0 h3 hc _ hw _ ⟨fun h => (by cases h), fun _ => ⟨fun ha => ⟨fun _ => ⟨fun _ => ?_, fun hne => ?_⟩, fun h => absurd rfl h⟩, fun ha => ?_⟩⟩
    · have er : (valF 16 l).2.2 = [] := List.length_eq_zero_iff.1 (by omega)
      have hb : decB l = true := by simp [decB, hok, er]
      simp only [decV, decE, hb, if_true]
      exact .refl _
    · have er : (valF 16 l).2.2 = [] := List.length_eq_zero_iff.1 (by omega)
      have := hg.eq
      rw [er, List.append_nil] at this
      rw [← this] at hne
      simp at hne
    · have er : (valF 16 l).2.2.isEmpty = false := by
        cases hq : (valF 16 l).2.2 with
        | nil => rw [hq] at hlr; simp at hlr; omega
        | cons _ _ => rfl
      have hb : decB l = false := by simp [decB, er]
      simp only [decV, decE, hb, Bool.false_eq_true, if_false]
      exact .tup2 (.aggs ⟨.refl _, .refl _, .refl _, .nil 4, trivial⟩) (.refl _)

/-! Few parts -/
theorem cnt_bound (v : CV) : ∀ d : Int, cnt d v ≤ 200 → 0 ≤ d ∧ (encB v).length ≤ 210 * cnt d v ∧ (dp v : Int) ≤ d + 1 := by
  refine CV.ind (p := fun v => ∀ d : Int, cnt d v ≤ 200 → 0 ≤ d ∧ (encB v).length ≤ 210 * cnt d v ∧ (dp v : Int) ≤ d + 1) (fun k n s l ih => ?_) v
  have hL : ∀ (d : Int), 0 ≤ d → ∀ (q : List CV), (∀ x ∈ q, ∀ d : Int, cnt d x ≤ 200 → 0 ≤ d ∧ (encB x).length ≤ 210 * cnt d x ∧ (dp x : Int) ≤ d + 1) → ∀ m : Nat, cntL d q m ≤ 200 → (encBL q).length + 210 * m ≤ 210 * cntL d q m ∧ (dpL q : Int) ≤ d := by
    intro d hd q
    induction q with
    | nil => intro _ m _; simp only [encBL, cntL, dpL, List.length_nil]; omega
    | cons x q ihq =>
      intro hx m hm
      simp only [cntL] at hm ⊢
      by_cases h : m ≤ 1000
      · rw [if_pos h] at hm ⊢
        obtain ⟨k1, k2⟩ := ihq (fun y hy => hx y (List.mem_cons_of_mem _ hy)) _ hm
        obtain ⟨q0, q1, q2⟩ := hx x List.mem_cons_self (d - 1) (by omega)
        simp only [encBL, dpL, List.length_append]
        omega
      · rw [if_neg h] at hm; omega
  intro d hc
  simp only [cnt] at hc ⊢
  by_cases h : d < 0 ∨ 150 < l.length
  · rw [if_pos h] at hc; omega
  · rw [if_neg h] at hc ⊢
    obtain ⟨k1, k2⟩ := hL d (by omega) l ih _ hc
    have hn := num_len (uns n)
    have hn2 := num_len s.size
    have hn3 := num_len l.length
    refine ⟨by omega, ?_, ?_⟩
    · simp only [encB]
      split
      · simp only [List.length_cons]; omega
      · split
        · simp only [List.length_cons, List.length_append, bdata_length]; omega
        · simp only [List.length_cons, List.length_append]; omega
    · simp only [dp]
      split <;> omega
theorem few7_c (v : CV) (r : Bool) (hv : CallC P G 21 [val v, int 20] [] (.ret (bool r)) []) : CallC P G 7 [.sl 4 false [enc v]] [] (.ret (bool r)) [] := by
  refine few_0 v r r ?_ ⟨fun h => h.symm, fun h => (Bool.eq_false_iff.2 h).symm⟩
  refine fx_0 v r hv _ ⟨fun h => ?_, fun h => ?_⟩
  · rw [if_pos h]; exact fx_1 v trivial
  · rw [if_neg (by rw [h]; decide)]

/-! The examples -/
theorem exL_ok : Okv (.mk 3 0 .empty exL) := .mk _ _ _ _ (by decide) (by decide) (by decide) fun x hx => by
  simp only [exL, List.mem_cons, List.not_mem_nil, or_false] at hx
  rcases hx with rfl | rfl
  · exact .mk _ _ _ _ (by decide) (by decide) (by decide) (fun x hx => by cases hx)
  · exact .mk _ _ _ _ (by decide) (by decide) (by decide) (fun x hx => by cases hx)
theorem exL_wf : wf (.mk 3 0 .empty exL) = true := by simp [wf, wfL, exL]
theorem exL_dp : dp (.mk 3 0 .empty exL) = 1 := by simp [dp, dpL, exL]
def exB : List UInt8 := [3, 2, 1, 200, 1, 2, 2, 97, 98]
theorem exL_enc : encB (.mk 3 0 .empty exL) = exB := by rfl
theorem exB_dec : decV exB = .mk 3 0 .empty exL := by rfl
theorem exB_decE : decE exB = 0 := by rfl
theorem i3_enc : encB (.mk 1 (-3) .empty []) = [1, 5] := by rfl
theorem bad1 : decE [] = 10 ∧ decV [] = default := ⟨by rfl, by rfl⟩
theorem bad2 : decE [1, 128, 0] = 10 ∧ decV [1, 128, 0] = default := ⟨by rfl, by rfl⟩
theorem bad3 : decE [1, 5, 0] = 10 ∧ decV [1, 5, 0] = default := ⟨by rfl, by rfl⟩
theorem bad4 : decE [2, 3, 97] = 10 ∧ decV [2, 3, 97] = default := ⟨by rfl, by rfl⟩
theorem int_ok (n : Int) (hn : -9223372036854775808 ≤ n ∧ n < 9223372036854775808) : Okv (.mk 1 n .empty []) := .mk _ _ _ _ hn (by decide) (by decide) (fun x hx => by cases hx)
theorem int_wf (n : Int) : wf (.mk 1 n .empty []) = true := by simp [wf]
theorem int_dp (n : Int) : dp (.mk 1 n .empty []) = 0 := by simp [dp]
theorem dec_bad_c {l : List UInt8} (hl : l.length ≤ 1000) (h : decE l = 10 ∧ decV l = default) : CallC P G 14 [byt l] [] (.ret (.tup [val default, int 10])) [] := by
  have := decode_c l (by omega)
  rw [h.1, h.2] at this
  exact this
theorem sane_c : CallC P G 6 [] [] (.ret (bool true)) [] := by
  have hA := encode_ok (.mk 1 (-3) .empty []) (int_ok _ (by decide)) (by rw [int_dp]; decide) (int_wf _) (by rw [i3_enc]; decide)
  have hB := encode_ok (.mk 3 0 .empty exL) exL_ok (by rw [exL_dp]; decide) exL_wf (by rw [exL_enc]; decide)
  have hc3 : chkE (.mk 3 0 .empty exL) = 0 := by simp only [chkE, exL_wf, if_true, exL_dp]; decide
  have hS := size_c (.mk 3 0 .empty exL) exL_ok (by rw [exL_dp]; decide) (fun _ => by rw [exL_enc]; decide)
  have hD := decode_c exB (by decide)
  have hS1 := same_c (.mk 3 0 .empty exL) exL_ok (.mk 3 0 .empty exL)
  have hS2 := same_c (.mk 2 0 ⟨#[]⟩ []) (.mk _ _ _ _ (by decide) (by decide) (by decide) (fun x hx => by cases hx)) (.mk 3 0 .empty [])
  have hC := check_c (.mk 0 0 .empty []) (.mk _ _ _ _ (by decide) (by decide) (by decide) (fun x hx => by cases hx)) (by simp [dp])
  rw [i3_enc] at hA
  rw [exL_enc] at hB
  rw [encE, if_pos hc3, exL_enc, hc3] at hS
  rw [exB_dec, exB_decE] at hD
  rw [sm_self] at hS1
  have e2 : sm (.mk 2 0 ⟨#[]⟩ []) (.mk 3 0 .empty []) = false := by simp [sm]
  rw [e2] at hS2
  have e3 : chkE (.mk 0 0 .empty []) = 1 := by simp [chkE, wf]
  rw [e3] at hC
  have hL : RunL P G none 0 (loopAt P 6 0) (saSt exS 4 0) (.exit 0) { env := slots 95 [(0, bool false)], H := [] } := by
    refine sa_step exS 4 0 ⟨#[]⟩ (by decide) (by decide) (by decide) rfl (dec_bad_c (l := []) (by decide) bad1) _ _ ?_
    refine sa_step exS 4 1 ⟨#[1, 128, 0]⟩ (by decide) (by decide) (by decide) rfl (dec_bad_c (l := [1, 128, 0]) (by decide) bad2) _ _ ?_
    refine sa_step exS 4 2 ⟨#[1, 5, 0]⟩ (by decide) (by decide) (by decide) rfl (dec_bad_c (l := [1, 5, 0]) (by decide) bad3) _ _ ?_
    refine sa_step exS 4 3 ⟨#[2, 3, 97]⟩ (by decide) (by decide) (by decide) rfl (dec_bad_c (l := [2, 3, 97]) (by decide) bad4) _ _ ?_
    exact sa_end exS 4 4 (by decide) trivial
  exact sane_w [1, 5] exB (.mk 3 0 .empty exL) hA hB hD hS hS1 hS2 (by rw [str_eq]; rfl) (by rw [str_eq]; rfl) (list_w exL trivial) hL hC trivial

/-! The statements -/
theorem spec3_c (v : CV) (hok : Okv v) : CallC P G 3 [val v] [] (.ret (bool true)) [] := by
  have hf := few7_c v _ (few_c v hok)
  cases hb : fewB v with
  | false => rw [hb] at hf; exact spec3_f v sane_c hf trivial
  | true =>
    rw [hb] at hf
    have hcnt : cnt 20 v ≤ 200 := of_decide_eq_true hb
    obtain ⟨_, k1, k2⟩ := cnt_bound v 20 hcnt
    have hd : dp v ≤ 1000001 := by omega
    have hlen : chkE v = 0 → (encB v).length ≤ 10000000 := fun _ => by omega
    exact spec3_t v sane_c hf (encE v) (chkE v) ((encE v).length : Int) (encode_c v hok hd hlen) (rencode_c v hok hd hlen) (size_c v hok hd hlen) (rsize_c v hok hd hlen) (check_c v hok hd) (rcheck_c v hok hd) (by simp) (by simp)
theorem decV_ok (l : List UInt8) (hl : l.length ≤ 10000000) : Okv (decV l) := by
  unfold decV
  split
  · rename_i h
    simp only [decB, Bool.and_eq_true] at h
    exact (valF_sound 16 l (by omega) h.1).ok
  · exact .mk _ _ _ _ (by decide) (by decide) (by decide) (fun x hx => by cases hx)
theorem spec4_c (b : List UInt8) (hl : b.length ≤ 9223372036854775807) : CallC P G 4 [byt b] [] (.ret (bool true)) [] := by
  by_cases hb : 2000 < b.length
  · exact spec4_l b hb hl sane_c trivial
  · have hr := rsame_c (decV b) (decV_ok b (by omega)) (decV b)
    rw [sm_self] at hr
    exact spec4_t b (by omega) sane_c (decV b) (decE b) (decode_c b (by omega)) (rdecode_c b (by omega)) hr (by simp)

theorem numN_pos (f u : Nat) : 1 ≤ (numN f u).length := by
  cases f with
  | zero => simp [numN]
  | succ f => simp only [numN]; split <;> simp
theorem numN_mono : ∀ (f u w : Nat), u ≤ w → (numN f u).length ≤ (numN f w).length
  | 0, _, _, _ => Nat.le_refl _
  | f + 1, u, w, h => by
    simp only [numN]
    by_cases hu : u < 128
    · rw [if_pos hu]
      split
      · exact Nat.le_refl _
      · simp
    · rw [if_neg hu, if_neg (by omega)]
      have := numN_mono f (u / 128) (w / 128) (by omega)
      simp only [List.length_cons]; omega
theorem num_mono {u w : Nat} (h : u ≤ w) : (num u).length ≤ (num w).length := by
  rw [num_numN, num_numN]; exact numN_mono 9 u w h
theorem int_enc (n : Int) : encB (.mk 1 n .empty []) = 1 :: num (uns n) := by simp [encB]
theorem int_dec (n : Int) (hn : -9223372036854775808 ≤ n ∧ n < 9223372036854775808) : decV (1 :: num (uns n)) = .mk 1 n .empty [] ∧ decE (1 :: num (uns n)) = 0 := by
  obtain ⟨k1, k2, k3⟩ := numF_num0 (uns n) (uns_lt hn) []
  rw [List.append_nil] at k1 k2 k3
  have e : valF 16 (1 :: num (uns n)) = (true, mkI n, []) := by
    show valS true (valF 15) (1 :: num (uns n)) = _
    rw [valS_1 (by decide), k1, k2, k3, sgn_uns]
  have hb : decB (1 :: num (uns n)) = true := by simp [decB, e]
  simp only [decV, decE, hb, if_true, e]
  exact ⟨rfl, trivial⟩
theorem spec5_c (a b : Int) (ha : -9223372036854775808 ≤ a ∧ a < 9223372036854775808) (hb : -9223372036854775808 ≤ b ∧ b < 9223372036854775808) : CallC P G 5 [int a, int b] [] (.ret (bool true)) [] := by
  have size : ∀ n : Int, -9223372036854775808 ≤ n ∧ n < 9223372036854775808 → CallC P G 10 [vmk 1 n .empty []] [] (.ret (.tup [int (((num (uns n)).length + 1 : Nat) : Int), int 0])) [] := fun n hn => by
    have hc : chkE (.mk 1 n .empty []) = 0 := by simp only [chkE, int_wf, if_true, int_dp]; decide
    have hl := num_len (uns n)
    have := size_c (.mk 1 n .empty []) (int_ok n hn) (by rw [int_dp]; decide) (fun _ => by rw [int_enc, List.length_cons]; omega)
    rw [encE, if_pos hc, hc, int_enc, List.length_cons] at this
    exact this
  have hla := num_len (uns a)
  have hlb := num_len (uns b)
  have h8 := encode_ok (.mk 1 a .empty []) (int_ok a ha) (by rw [int_dp]; decide) (int_wf a) (by rw [int_enc, List.length_cons]; omega)
  rw [int_enc] at h8
  have h14 := decode_c (1 :: num (uns a)) (by rw [List.length_cons]; omega)
  rw [(int_dec a ha).1, (int_dec a ha).2] at h14
  refine spec5_w a b _ _ sane_c (size a ha) (size b hb) (by omega) (by omega) ?_ ?_ (1 :: num (uns a)) h8 h14 (by rw [str_eq]; rfl) ⟨fun _ => ⟨fun _ => trivial, fun _ => trivial⟩, fun _ => ⟨fun _ => trivial, fun _ => trivial⟩⟩
  · by_cases h : 0 ≤ a ∧ a ≤ b
    · have : uns a ≤ uns b := by unfold uns; rw [if_pos h.1, if_pos (by omega)]; omega
      have := num_mono this
      omega
    · omega
  · by_cases h : a < 0 ∧ b ≤ a
    · have : uns a ≤ uns b := by unfold uns; rw [if_neg (by omega), if_neg (by omega)]; omega
      have := num_mono this
      omega
    · omega

end Go.Cdc
