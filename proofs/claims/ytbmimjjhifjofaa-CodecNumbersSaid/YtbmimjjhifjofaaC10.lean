/- CODEC, 10: contracts of Same, and of the reference's encoder. -/
import Derived.Test.YtbmimjjhifjofaaC9
namespace Go.Cdc
set_option linter.unusedSimpArgs false
set_option linter.unusedVariables false
open Go Go.Am Go.Proofs

theorem smL_len : ∀ {l m : List CV}, smL l m = true → l.length = m.length
  | [], [], _ => rfl
  | a :: l, b :: m, h => by
    simp only [smL, Bool.and_eq_true] at h
    simp only [List.length_cons, smL_len h.2]
  | [], _ :: _, h => by simp [smL] at h
  | _ :: _, [], h => by simp [smL] at h
theorem sm_iff_all : (∀ a : CV, ∀ b : CV, sm a b = true ↔ a = b) := by
  refine fun a => CV.ind (p := fun a => ∀ b : CV, sm a b = true ↔ a = b) (fun k n s l ih => ?_) a
  have hl : ∀ (l m : List CV), (∀ x ∈ l, ∀ b : CV, sm x b = true ↔ x = b) → (smL l m = true ↔ l = m) := by
    intro l
    induction l with
    | nil => intro m _; cases m <;> simp [smL]
    | cons x l ihl =>
      intro m hx
      cases m with
      | nil => simp [smL]
      | cons y m =>
        simp only [smL, Bool.and_eq_true, hx x (List.mem_cons_self) y, ihl m fun z hz => hx z (List.mem_cons_of_mem _ hz), List.cons.injEq]
  intro b
  cases b with
  | mk k' n' s' l' =>
    simp only [sm, Bool.and_eq_true, decide_eq_true_eq, hl l l' ih, CV.mk.injEq]
    constructor
    · rintro ⟨⟨⟨h1, h2⟩, h3⟩, h4⟩; exact ⟨h1, h2, h3, h4⟩
    · rintro ⟨h1, h2, h3, h4⟩; exact ⟨⟨⟨h1, h2⟩, h3⟩, h4⟩
theorem sm_iff {a b : CV} : sm a b = true ↔ a = b := sm_iff_all a b
theorem sm_self (a : CV) : sm a a = true := sm_iff.2 rfl

theorem drop_get {α : Type} {l : List α} {i : Nat} (h : i < l.length) : l.drop i = l[i] :: l.drop (i + 1) := List.drop_eq_getElem_cons h

theorem eq_loop (l m : List CV) (hl : l.length ≤ 9223372036854775807) (hlm : l.length = m.length) (hv : ∀ x ∈ l, ∀ y ∈ m, CallC P G 20 [val x, val y] [] (.ret (bool (sm x y))) []) : ∀ (c i : Nat), l.length - i = c → i ≤ l.length →
    RunL P G none 0 (loopAt P 31 0) (eqSt l m i) (if smL (l.drop i) (m.drop i) = true then .exit 0 else .ret) { env := slots 32 [(6, bool false)], H := [] } := by
  intro c
  induction c with
  | zero =>
    intro i hc hi
    rw [List.drop_of_length_le (by omega), List.drop_of_length_le (by omega)]
    simp only [smL, if_true]
    exact eq_end l m i (by omega) trivial
  | succ c ih =>
    intro i hc hi
    have hlt : i < l.length := by omega
    have hlt' : i < m.length := by omega
    rw [drop_get hlt, drop_get hlt']
    refine eq_step l m i l[i] m[i] (sm l[i] m[i]) hlt hl (List.getElem?_eq_getElem hlt) (List.getElem?_eq_getElem hlt') (hv _ (List.getElem_mem hlt) _ (List.getElem_mem hlt')) _ ⟨fun h => ?_, fun h => ?_⟩
    · simp only [smL, h, Bool.true_and]; exact ih (i + 1) (by omega) (by omega)
    · simp [smL, h]
theorem smL_ne : ∀ {l m : List CV}, l.length ≠ m.length → smL l m = false := fun h => Bool.eq_false_iff.2 fun e => h (smL_len e)
theorem same_c (a : CV) : Okv a → ∀ b : CV, CallC P G 20 [val a, val b] [] (.ret (bool (sm a b))) [] := by
  refine CV.ind (p := fun a => Okv a → ∀ b : CV, CallC P G 20 [val a, val b] [] (.ret (bool (sm a b))) []) (fun k n s l ih hok b => ?_) a
  cases hok with
  | mk _ _ _ _ hn hs hl hall =>
    cases b with
    | mk k' n' s' l' =>
      rw [val_mk, val_mk]
      have h31 : CallC P G 31 [.sl 4 false (encL l), .sl 4 false (encL l'), sameFn] [] (.ret (bool (smL l l'))) [] := by
        by_cases hll : l.length = l'.length
        · have := eq_loop l l' hl hll (fun x hx y _ => ih x hx (hall x hx) y) l.length 0 (by omega) (by omega)
          rw [List.drop_zero, List.drop_zero] at this
          exact eqf_w l l' hll _ _ this ⟨fun h => h.symm, fun h => (Bool.eq_false_iff.2 h).symm⟩
        · rw [smL_ne hll]; exact eqf_ne l l' hll trivial
      refine same_w k n k' n' s s' l l' _ _ h31 ⟨fun h1 => ⟨fun h2 => ⟨fun h3 => ?_, fun h3 => ?_⟩, fun h2 => ?_⟩, fun h1 => ?_⟩
      · simp [sm, h1, h2, h3]
      · simp [sm, h3]
      · simp [sm, h2]
      · simp [sm, h1]

theorem rs_loop (k n : Int) (s : ByteArray) (l m : List CV) (hl : l.length ≤ 9223372036854775807) (hlm : l.length = m.length) (hv : ∀ x ∈ l, ∀ y ∈ m, CallC P G 16 [val x, val y] [] (.ret (bool (sm x y))) []) : ∀ (c i : Nat), l.length - i = c → i ≤ l.length →
    RunL P G none 0 (loopAt P 16 0) (rsSt k n s l m i) (if smL (l.drop i) (m.drop i) = true then .exit 0 else .ret) { env := slots 53 [(4, bool false)], H := [.gone, .gone] } := by
  intro c
  induction c with
  | zero =>
    intro i hc hi
    rw [List.drop_of_length_le (by omega), List.drop_of_length_le (by omega)]
    simp only [smL, if_true]
    exact rs_end k n s l m i (by omega) trivial
  | succ c ih =>
    intro i hc hi
    have hlt : i < l.length := by omega
    have hlt' : i < m.length := by omega
    rw [drop_get hlt, drop_get hlt']
    refine rs_step k n s l m i l[i] m[i] (sm l[i] m[i]) hlt hl (List.getElem?_eq_getElem hlt) (List.getElem?_eq_getElem hlt') (hv _ (List.getElem_mem hlt) _ (List.getElem_mem hlt')) _ ⟨fun h => ?_, fun h => ?_⟩
    · simp only [smL, h, Bool.true_and]; exact ih (i + 1) (by omega) (by omega)
    · simp [smL, h]
theorem rsame_c (a : CV) : Okv a → ∀ b : CV, CallC P G 16 [val a, val b] [] (.ret (bool (sm a b))) [] := by
  refine CV.ind (p := fun a => Okv a → ∀ b : CV, CallC P G 16 [val a, val b] [] (.ret (bool (sm a b))) []) (fun k n s l ih hok b => ?_) a
  cases hok with
  | mk _ _ _ _ hn hs hl hall =>
    cases b with
    | mk k' n' s' l' =>
      rw [val_mk, val_mk]
      by_cases hc : k = k' ∧ n = n' ∧ l.length = l'.length
      · obtain ⟨rfl, rfl, hll⟩ := hc
        by_cases he : s = s'
        · subst he
          have := rs_loop k n s l l' hl hll (fun x hx y _ => ih x hx (hall x hx) y) l.length 0 (by omega) (by omega)
          rw [List.drop_zero, List.drop_zero] at this
          exact rsame_w k n s l l' hll _ _ this ⟨fun _ => ⟨fun h => by simp [sm, h], fun h => by simp [sm, h]⟩, fun h => absurd rfl h⟩
        · have : sm (.mk k n s l) (.mk k n s' l') = false := by simp [sm, he]
          rw [this]
          exact rsame_ne2 k n k n s s' l l' (decide_eq_false he) ⟨fun _ => ⟨fun _ => trivial, fun _ => trivial⟩, fun _ => trivial⟩
      · have : sm (.mk k n s l) (.mk k' n' s' l') = false := by
          refine Bool.eq_false_iff.2 fun h => hc ?_
          simp only [sm, Bool.and_eq_true, decide_eq_true_eq] at h
          exact ⟨h.1.1.1, h.1.1.2, smL_len h.2⟩
        rw [this]
        exact rsame_ne1 k n k' n' s s' l l' hc ⟨fun _ => ⟨fun _ => ⟨fun _ => trivial, fun _ => trivial⟩, fun _ => trivial⟩, fun _ => trivial⟩

theorem bys_ne {l : List UInt8} (h : 1 ≤ l.length) : ¬ bys l = [] := fun e => by
  have := congrArg List.length e
  rw [bys_length, List.length_nil] at this; omega
theorem re_loop (k n : Int) (s : ByteArray) (l : List CV) (hl : l.length ≤ 9223372036854775807) (hv : ∀ x ∈ l, (encB x).length ≤ 10000000 → CallC P G 23 [val x] [] (.ret (byt (encB x))) []) : ∀ (c i : Nat) (a : List UInt8) (g : Nat), l.length - i = c → i ≤ l.length → a.length + (encBL (l.drop i)).length ≤ 10000000 →
    RunL P G none 0 (loopAt P 23 0) (reSt k n s l (bys a) a.length g i) (.exit 1) { env := slots 50 [(3, .own 1 (g + (l.length - i)) 0 (a ++ encBL (l.drop i)).length)], H := [.gone, .arr (g + (l.length - i)) 1 false (bys (a ++ encBL (l.drop i)))] } := by
  intro c
  induction c with
  | zero =>
    intro i a g hc hi hlen
    rw [List.drop_of_length_le (by omega), hc]
    simp only [encBL, List.append_nil, Nat.add_zero]
    exact re_end k n s l (bys a) a.length g i (by omega) trivial
  | succ c ih =>
    intro i a g hc hi hlen
    have hlt : i < l.length := by omega
    rw [drop_get hlt] at hlen ⊢
    simp only [encBL, List.length_append] at hlen
    refine re_step k n s l (bys a) a.length g i l[i] (encB l[i]) (bys_length a) (by omega) (by omega) hlt hl (List.getElem?_eq_getElem hlt) (bys_ne (encB_pos _)) (hv _ (List.getElem_mem hlt) (by omega)) _ _ ?_
    have := ih (i + 1) (a ++ encB l[i]) (g + 1) (by omega) (by omega) (by rw [List.length_append]; omega)
    rw [bys_length, bys_append]
    simp only [encBL]
    rw [show g + (l.length - i) = g + 1 + (l.length - (i + 1)) by omega, ← List.append_assoc]
    rw [show a.length + (encB l[i]).length = (a ++ encB l[i]).length by rw [List.length_append]]
    exact this
theorem renc_c (v : CV) : Okv v → (encB v).length ≤ 10000000 → CallC P G 23 [val v] [] (.ret (byt (encB v))) [] := by
  refine CV.ind (p := fun v => Okv v → (encB v).length ≤ 10000000 → CallC P G 23 [val v] [] (.ret (byt (encB v))) []) (fun k n s l ih hok hlen => ?_) v
  cases hok with
  | mk _ _ _ _ hn hs hl hall =>
    rw [val_mk]
    by_cases h1 : k = 1
    · subst h1
      have e1 : encB (.mk 1 n s l) = 1 :: num (uns n) := by simp [encB]
      rw [e1]
      have := num_len (uns n)
      exact ren1_w n s l hn (uns_lt hn) (bys_ne (by omega)) ⟨by rw [bys_length]; omega, trivial⟩
    · by_cases h2 : k = 2
      · subst h2
        have e1 : encB (.mk 2 n s l) = 2 :: (num s.size ++ s.data.toList) := by simp [encB]
        rw [e1] at hlen ⊢
        simp only [List.length_append, List.length_cons, bdata_length] at hlen
        have em := u64mod (n := s.size) (by omega)
        have := num_len s.size
        refine ren2_w n s l (by omega) (bys_ne (by rw [em]; omega)) ⟨?_, ?_, ?_⟩ <;> rw [em]
        · rw [bys_length]; omega
        · simp only [List.length_map, bdata_length, bys_length]; omega
        · rw [bys_cons, bys_app]; rfl
      · have e1 : encB (.mk k n s l) = 3 :: (num l.length ++ encBL l) := by simp [encB, h1, h2]
        rw [e1] at hlen ⊢
        simp only [List.length_append, List.length_cons] at hlen
        have hll := encBL_len l
        have em := u64mod (n := l.length) (by omega)
        have := num_len l.length
        have hL := re_loop k n s l hl (fun x hx => ih x hx (hall x hx)) l.length 0 (3 :: num l.length) 0 (by omega) (by omega) (by rw [List.drop_zero]; simp only [List.length_cons]; omega)
        rw [List.drop_zero, List.cons_append] at hL
        refine ren3_w k n s l (3 :: (num l.length ++ encBL l)) (0 + (l.length - 0)) h1 h2 (by omega) (bys_ne (by rw [em]; omega)) (by simp only [List.length_append, List.length_cons]; omega) ?_ ⟨by rw [em, bys_length]; omega, trivial⟩
        rw [em]
        have e4 : 1 + (bys (num l.length)).length = (3 :: num l.length).length := by rw [bys_length]; simp only [List.length_cons]; omega
        rw [e4]
        exact hL
theorem rencode_c (v : CV) (hok : Okv v) (hd : dp v ≤ 1000001) (hlen : chkE v = 0 → (encB v).length ≤ 10000000) : CallC P G 9 [val v] [] (.ret (.tup [byt (encE v), int (chkE v)])) [] := by
  have hc := rcheck_c v hok hd
  unfold encE
  by_cases h : chkE v = 0
  · rw [if_pos h]
    rw [h] at hc ⊢
    exact renc_ok v _ hc (renc_c v hok (hlen h)) trivial
  · rw [if_neg h]
    exact CallC.out (renc_bad v _ hc h trivial) (.tup2 (.nil 1) (.refl _))
theorem rsize_c (v : CV) (hok : Okv v) (hd : dp v ≤ 1000001) (hlen : chkE v = 0 → (encB v).length ≤ 10000000) : CallC P G 11 [val v] [] (.ret (.tup [int ((encE v).length : Int), int (chkE v)])) [] :=
  rsize_w v (encE v).length (chkE v) (encE v) rfl (rencode_c v hok hd hlen) (by rw [bys_length])

end Go.Cdc
