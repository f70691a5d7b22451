/- CODEC, 8: what the program writes. -/
import Derived.Test.YtbmimjjhifjofaaC7
namespace Go.Cdc
set_option linter.unusedSimpArgs false
set_option linter.unusedVariables false
open Go Go.Am Go.Proofs

theorem encBL_nil : encBL [] = [] := rfl
theorem encBL_cons (v : CV) (l : List CV) : encBL (v :: l) = encB v ++ encBL l := rfl
theorem encB_pos (v : CV) : 1 ≤ (encB v).length := by
  cases v; simp only [encB]; split
  · simp
  · split <;> simp
theorem encBL_len : ∀ l : List CV, l.length ≤ (encBL l).length
  | [] => by simp [encBL]
  | v :: l => by
    have := encBL_len l; have := encB_pos v
    simp only [encBL, List.length_append, List.length_cons]; omega
theorem own_eq {i g g' n n' : Nat} (hg : g = g') (hn : n = n') : Sub (.own i g 0 n) (.own i g' 0 n') := .of_eq (by rw [hg, hn])
theorem arr_eq {g g' : Nat} {xs ys : List (List AV)} (hg : g = g') (hn : xs = ys) : [AObj.arr g 1 false xs] = [AObj.arr g' 1 false ys] := by rw [hg, hn]
theorem bys_cons (c : UInt8) (l : List UInt8) : bys (c :: l) = [AV.lit (.int .u8 c.toNat)] :: bys l := rfl
theorem bys_app (a b : List UInt8) : bys (a ++ b) = bys a ++ bys b := (bys_append a b).symm

/-- The writers' contract. -/
def WrC (v : CV) : Prop := ∀ (a : List UInt8) (g : Nat), a.length + (encB v).length ≤ 10000000 →
  (v.k = 1 → CallC P G 33 [.own 0 g 0 a.length, val v] [.arr g 1 false (bys a)] (.ret (.own 0 (g + gens v) 0 (a ++ encB v).length)) [.arr (g + gens v) 1 false (bys (a ++ encB v))]) ∧
  (v.k = 2 → CallC P G 36 [.own 0 g 0 a.length, val v] [.arr g 1 false (bys a)] (.ret (.own 0 (g + gens v) 0 (a ++ encB v).length)) [.arr (g + gens v) 1 false (bys (a ++ encB v))]) ∧
  (v.k = 3 → CallC P G 37 [.own 0 g 0 a.length, val v, .ptr 2 0] (.arr g 1 false (bys a) :: kinds 1 2) (.ret (.own 0 (g + gens v) 0 (a ++ encB v).length)) (.arr (g + gens v) 1 false (bys (a ++ encB v)) :: kinds 1 2))

theorem wf_k {v : CV} (h : wf v = true) : v.k = 1 ∨ v.k = 2 ∨ v.k = 3 := by
  cases v with
  | mk k n s l =>
    simp only [CV.k]
    by_cases h1 : k = 1
    · exact .inl h1
    · by_cases h2 : k = 2
      · exact .inr (.inl h2)
      · by_cases h3 : k = 3
        · exact .inr (.inr h3)
        · simp [wf, h1, h2, h3] at h
theorem wfL_mem : ∀ {l : List CV}, wfL l = true → ∀ x ∈ l, wf x = true
  | [], _, x, hx => by cases hx
  | v :: l, h, x, hx => by
    simp only [wfL, Bool.and_eq_true] at h
    rcases List.mem_cons.1 hx with rfl | hx
    · exact h.1
    · exact wfL_mem h.2 x hx

theorem kinds_len : (kinds 1 2).length = 2 := rfl

theorem wr_loop (n0 : Int) (s0 : ByteArray) (l : List CV) (hl : l.length ≤ 9223372036854775807) (hw : ∀ x ∈ l, wf x = true) (hv : ∀ x ∈ l, WrC x) : ∀ (m i : Nat) (a : List UInt8) (g : Nat), l.length - i = m → i ≤ l.length → a.length + (encBL (l.drop i)).length ≤ 10000000 →
    RunL P G none 3 (loopAt P 37 0) (wrSt (bys a) a.length g n0 s0 l i) (.exit 0) { env := slots 35 [(0, .own 0 (g + gensL (l.drop i)) 0 (a ++ encBL (l.drop i)).length)], H := .arr (g + gensL (l.drop i)) 1 false (bys (a ++ encBL (l.drop i))) :: (kinds 1 2 ++ [.box [int 3, int n0, str s0, .sl 4 false (encL l)]]) } := by
  intro m
  induction m with
  | zero =>
    intro i a g hm hi hlen
    rw [List.drop_of_length_le (by omega)]
    simp only [encBL, gensL, Nat.add_zero, List.append_nil]
    exact wr_end (bys a) a.length g n0 s0 l i (by omega) trivial
  | succ m ih =>
    intro i a g hm hi hlen
    have hlt : i < l.length := by omega
    have e := List.drop_eq_getElem_cons hlt
    have hx : l[i]? = some l[i] := List.getElem?_eq_getElem hlt
    have hwx := hw _ (List.getElem_mem hlt)
    have hvx := hv _ (List.getElem_mem hlt)
    rw [e] at hlen ⊢
    simp only [encBL, gensL, List.length_append] at hlen ⊢
    have hc := hvx a g (by omega)
    have hn := ih (i + 1) (a ++ encB l[i]) (g + gens l[i]) (by omega) (by omega) (by rw [List.length_append]; omega)
    rw [List.append_assoc, Nat.add_assoc] at hn
    simp only [List.length_append] at hn hc
    generalize l[i] = x at *
    cases x with
    | mk k n s q =>
      rcases wf_k hwx with h | h | h
      · simp only [CV.k] at h
        subst h
        exact wr_step1 _ _ _ _ _ _ n0 s0 l i n s q hlt hl hx (hc.1 rfl) _ _ ⟨⟨by simp only [CV.k]; decide, by simp only [CV.k]; decide⟩, bys_ids _, bys_ids _, hn⟩
      · simp only [CV.k] at h
        subst h
        exact wr_step2 _ _ _ _ _ _ n0 s0 l i n s q hlt hl hx (hc.2.1 rfl) _ _ ⟨⟨by simp only [CV.k]; decide, by simp only [CV.k]; decide⟩, bys_ids _, bys_ids _, hn⟩
      · simp only [CV.k] at h
        subst h
        exact wr_step3 _ _ _ _ _ _ n0 s0 l i n s q hlt hl hx (hc.2.2 rfl) _ _ ⟨⟨by simp only [CV.k]; decide, by simp only [CV.k]; decide⟩, bys_ids _, bys_ids _, hn⟩

theorem wz_loop (n0 : Int) (s0 : ByteArray) (l : List CV) (hl : l.length ≤ 9223372036854775807) (hw : ∀ x ∈ l, wf x = true) (hv : ∀ x ∈ l, WrC x) : ∀ (m i : Nat) (a : List UInt8) (g : Nat), l.length - i = m → i ≤ l.length → a.length + (encBL (l.drop i)).length ≤ 10000000 →
    RunL P G none 2 (loopAt P 37 0) (wzSt (bys a) a.length g n0 s0 l i) (.exit 0) { env := slots 35 [(0, .own 3 (g + gensL (l.drop i)) 0 (a ++ encBL (l.drop i)).length)], H := kinds 0 1 ++ [.box [int 3, int n0, str s0, .sl 4 false (encL l)], .arr (g + gensL (l.drop i)) 1 false (bys (a ++ encBL (l.drop i)))] } := by
  intro m
  induction m with
  | zero =>
    intro i a g hm hi hlen
    rw [List.drop_of_length_le (by omega)]
    simp only [encBL, gensL, Nat.add_zero, List.append_nil]
    exact wz_end (bys a) a.length g n0 s0 l i (by omega) trivial
  | succ m ih =>
    intro i a g hm hi hlen
    have hlt : i < l.length := by omega
    have e := List.drop_eq_getElem_cons hlt
    have hx : l[i]? = some l[i] := List.getElem?_eq_getElem hlt
    have hwx := hw _ (List.getElem_mem hlt)
    have hvx := hv _ (List.getElem_mem hlt)
    rw [e] at hlen ⊢
    simp only [encBL, gensL, List.length_append] at hlen ⊢
    have hc := hvx a g (by omega)
    have hn := ih (i + 1) (a ++ encB l[i]) (g + gens l[i]) (by omega) (by omega) (by rw [List.length_append]; omega)
    rw [List.append_assoc, Nat.add_assoc] at hn
    simp only [List.length_append] at hn hc
    generalize l[i] = x at *
    cases x with
    | mk k n s q =>
      rcases wf_k hwx with h | h | h
      · simp only [CV.k] at h
        subst h
        exact wz_step1 _ _ _ _ _ _ n0 s0 l i n s q hlt hl hx (hc.1 rfl) _ _ ⟨⟨by simp only [CV.k]; decide, by simp only [CV.k]; decide⟩, bys_ids _, bys_ids _, hn⟩
      · simp only [CV.k] at h
        subst h
        exact wz_step2 _ _ _ _ _ _ n0 s0 l i n s q hlt hl hx (hc.2.1 rfl) _ _ ⟨⟨by simp only [CV.k]; decide, by simp only [CV.k]; decide⟩, bys_ids _, bys_ids _, hn⟩
      · simp only [CV.k] at h
        subst h
        exact wz_step3 _ _ _ _ _ _ n0 s0 l i n s q hlt hl hx (hc.2.2 rfl) _ _ ⟨⟨by simp only [CV.k]; decide, by simp only [CV.k]; decide⟩, bys_ids _, bys_ids _, hn⟩

theorem u64mod {n : Nat} (h : n ≤ 10000000) : n % 18446744073709551616 = n := Nat.mod_eq_of_lt (by omega)

theorem wrC_all (v : CV) : Okv v → wf v = true → WrC v := by
  refine CV.ind (p := fun v => Okv v → wf v = true → WrC v) (fun k n s l ih hok hwf => ?_) v
  cases hok with
  | mk _ _ _ _ hn hs hl hall =>
    intro a g hlen
    refine ⟨fun hk => ?_, fun hk => ?_, fun hk => ?_⟩
    · simp only [CV.k] at hk
      subst hk
      have e1 : encB (.mk 1 n s l) = 1 :: num (uns n) := by simp [encB]
      have e2 : gens (.mk 1 n s l) = 1 + (num (uns n)).length := by simp [gens]
      rw [e1] at hlen ⊢
      rw [e2]
      refine w1_own a g n s l hn (uns_lt hn) (by omega) ⟨own_eq (by omega) (by simp only [List.length_append, List.length_cons]; omega), arr_eq (by omega) ?_⟩
      rw [bys_app, bys_cons, List.append_assoc]; rfl
    · simp only [CV.k] at hk
      subst hk
      have e1 : encB (.mk 2 n s l) = 2 :: (num s.size ++ s.data.toList) := by simp [encB]
      have e2 : gens (.mk 2 n s l) = 2 + (num s.size).length := by simp [gens]
      rw [e1] at hlen ⊢
      rw [e2]
      simp only [List.length_append, List.length_cons, bdata_length] at hlen
      have em := u64mod (n := s.size) (by omega)
      refine w2_own a g n s l (by omega) (by omega) ⟨?_, own_eq ?_ ?_, arr_eq ?_ ?_⟩ <;> rw [em]
      · simp only [List.length_map, bdata_length]; omega
      · omega
      · simp only [List.length_map, bdata_length, List.length_append, List.length_cons]; omega
      · omega
      · rw [bys_app, bys_cons, bys_app]; simp only [List.append_assoc]; rfl
    · simp only [CV.k] at hk
      subst hk
      have e1 : encB (.mk 3 n s l) = 3 :: (num l.length ++ encBL l) := by simp [encB]
      have e2 : gens (.mk 3 n s l) = 1 + (num l.length).length + gensL l := by simp [gens]
      have ew : wf (.mk 3 n s l) = (decide (n = 0) && decide (s = .empty) && wfL l) := by simp [wf]
      rw [ew] at hwf
      simp only [Bool.and_eq_true] at hwf
      rw [e1] at hlen ⊢
      rw [e2]
      simp only [List.length_append, List.length_cons] at hlen
      have hll := encBL_len l
      have em := u64mod (n := l.length) (by omega)
      have hL := wr_loop n s l hl (wfL_mem hwf.2) (fun x hx => ih x hx (hall x hx) (wfL_mem hwf.2 x hx)) l.length 0 (a ++ 3 :: num l.length) (g + 1 + (num l.length).length) (by omega) (by omega) (by rw [List.drop_zero]; simp only [List.length_append, List.length_cons]; omega)
      rw [List.drop_zero, List.append_assoc, List.cons_append] at hL
      have eg : g + (1 + (num l.length).length + gensL l) = g + 1 + (num l.length).length + gensL l := by omega
      rw [eg]
      refine w3_own a (a ++ 3 :: (num l.length ++ encBL l)) g _ n s l (by omega) (by omega) ?_ trivial
      rw [em]
      have e3 : bys a ++ [[AV.lit (.int .u8 3)]] ++ bys (num l.length) = bys (a ++ 3 :: num l.length) := by
        rw [bys_app, bys_cons, List.append_assoc]; rfl
      have e4 : a.length + 1 + (num l.length).length = (a ++ 3 :: num l.length).length := by simp only [List.length_append, List.length_cons]; omega
      rw [e3, e4]
      exact hL

theorem encode_ok (v : CV) (hok : Okv v) (hd : dp v ≤ 16) (hwf : wf v = true) (hlen : (encB v).length ≤ 10000000) : CallC P G 8 [val v] [] (.ret (.tup [byt (encB v), int 0])) [] := by
  have hc := check_c v hok (by omega)
  have e0 : chkE v = 0 := by simp only [chkE, hwf, if_true]; rw [if_neg (by omega)]
  rw [e0] at hc
  have hk := wf_k hwf
  cases v with
  | mk k n s l =>
    cases hok with
    | mk _ _ _ _ hn hs hl hall =>
      simp only [CV.k] at hk
      rcases hk with rfl | rfl | rfl
      · have e1 : encB (.mk 1 n s l) = 1 :: num (uns n) := by simp [encB]
        rw [e1]
        exact enc_1 n s l _ hc (w1_nil n s l hn (uns_lt hn) trivial) trivial
      · have e1 : encB (.mk 2 n s l) = 2 :: (num s.size ++ s.data.toList) := by simp [encB]
        rw [e1] at hlen ⊢
        simp only [List.length_append, List.length_cons, bdata_length] at hlen
        have em := u64mod (n := s.size) (by omega)
        refine enc_2 n s l _ hc (w2_nil n s l (by omega) ⟨?_, ?_⟩) trivial <;> rw [em]
        · simp only [List.length_map, bdata_length]; omega
        · rw [bys_cons, bys_app]; rfl
      · have e1 : encB (.mk 3 n s l) = 3 :: (num l.length ++ encBL l) := by simp [encB]
        have ew : wf (.mk 3 n s l) = (decide (n = 0) && decide (s = .empty) && wfL l) := by simp [wf]
        rw [ew] at hwf
        simp only [Bool.and_eq_true] at hwf
        rw [e1] at hlen ⊢
        simp only [List.length_append, List.length_cons] at hlen
        have hll := encBL_len l
        have em := u64mod (n := l.length) (by omega)
        have hL := wz_loop n s l hl (wfL_mem hwf.2) (fun x hx => wrC_all x (hall x hx) (wfL_mem hwf.2 x hx)) l.length 0 (3 :: num l.length) (0 + (num l.length).length) (by omega) (by omega) (by rw [List.drop_zero]; simp only [List.length_cons]; omega)
        rw [List.drop_zero, List.cons_append] at hL
        refine enc_3 n s l _ hc (w3_nil (3 :: (num l.length ++ encBL l)) (0 + (num l.length).length + gensL l) n s l (by omega) ?_ trivial) trivial
        rw [em]
        have e4 : 1 + (num l.length).length = (3 :: num l.length).length := by simp only [List.length_cons]; omega
        rw [e4]
        exact hL
theorem encode_bad (v : CV) (hok : Okv v) (hd : dp v ≤ 1000001) (h : chkE v ≠ 0) : CallC P G 8 [val v] [] (.ret (.tup [nilS, int (chkE v)])) [] := enc_bad v _ (check_c v hok hd) h trivial

/-- Encode's answer. -/
def encE (v : CV) : List UInt8 := if chkE v = 0 then encB v else []
theorem chkE_0 {v : CV} (h : chkE v = 0) : wf v = true ∧ dp v ≤ 16 := by
  unfold chkE at h
  split at h
  · next hw =>
    refine ⟨hw, ?_⟩
    split at h
    · cases h
    · omega
  · cases h
theorem encode_c (v : CV) (hok : Okv v) (hd : dp v ≤ 1000001) (hlen : chkE v = 0 → (encB v).length ≤ 10000000) : CallC P G 8 [val v] [] (.ret (.tup [byt (encE v), int (chkE v)])) [] := by
  by_cases h : chkE v = 0
  · have := chkE_0 h
    unfold encE
    rw [if_pos h, h]
    exact encode_ok v hok this.2 this.1 (hlen h)
  · have := encode_bad v hok hd h
    unfold encE
    rw [if_neg h]
    exact CallC.out this (.tup2 (.nil 1) (.refl _))
theorem size_c (v : CV) (hok : Okv v) (hd : dp v ≤ 1000001) (hlen : chkE v = 0 → (encB v).length ≤ 10000000) : CallC P G 10 [val v] [] (.ret (.tup [int ((encE v).length : Int), int (chkE v)])) [] :=
  size_w v .dead (encE v).length (chkE v) (encE v) rfl (encode_c v hok hd hlen) (by rw [bys_length])

end Go.Cdc
