import Derived.Test.YtkckmpmlbmdalaaDoorK11
import Derived.KernelRfl
/- CODEC, 9: Same in both packages; the reference's Encode and Size. -/
namespace Go.Cdc
set_option maxRecDepth 100000
set_option linter.unusedSimpArgs false
set_option linter.unusedVariables false
open Go Go.Am Go.Proofs Go.Seat

mutual
/-- Equal values. -/
def sm : CV → CV → Bool
  | .mk k n s l, .mk k' n' s' l' => decide (k = k') && decide (n = n') && decide (s = s') && smL l l'
def smL : List CV → List CV → Bool
  | [], [] => true
  | a :: l, b :: m => sm a b && smL l m
  | [], _ :: _ => false
  | _ :: _, [] => false
end
def rsSt (k n : Int) (s : ByteArray) (l l' : List CV) (i : Nat) : St := { env := slots 53 [(2, .ptr 0 0), (3, .ptr 1 0), (4, bool false), (5, int i)], H := [.box [int k, int n, str s, .sl 4 false (encL l)], .box [int k, int n, str s, .sl 4 false (encL l')]] }

theorem ren1_w (n : Int) (s : ByteArray) (l : List CV) (hn : -9223372036854775808 ≤ n ∧ n < 9223372036854775808) (hu : uns n < 18446744073709551616) (h0 : ¬ bys (num (uns n)) = []) (h : (((1 + List.length (bys (num (uns n)))) * 1 ≤ 140737488355328) ∧ True)) : CallC P G 76 [vmk 1 n s l] [] (AOut.ret (byt (1 :: num (uns n)))) [] := by
  obtain ⟨o1, h⟩ := h
  have _ := h
  exact callC_of [kt (Eq.refl true), kc [] (@Go.Cdc.runs_c (n) (by omega)), kc [] (@Go.Cdc.rnumeral_c (uns n) (by omega)), ko (Orc.frz ([AV.lit (Value.int IntKind.u8 1)] :: bys (num (uns n)))), kp h0, kp o1, kp (show 0 = 0 from (rfl)), kp (show List.take (1 + List.length (bys (num (uns n)))) (List.drop 0 ([AV.lit (Value.int IntKind.u8 1)] :: bys (num (uns n)))) = [AV.lit (Value.int IntKind.u8 1)] :: bys (num (uns n)) from (by rw [List.drop_zero, List.take_of_length_le (by simp only [List.length_append, List.length_cons, List.length_nil, List.length_map, Go.Cdc.bys_length, Go.Cdc.bys_ids, Go.Cdc.bys_pure] <;> omega)])), kp (show List.length ([AV.lit (Value.int IntKind.u8 1)] :: bys (num (uns n))) = 1 + List.length (bys (num (uns n))) from (by simp only [List.length_append, List.length_cons, List.length_nil, List.length_map, Go.Cdc.bys_length, Go.Cdc.bys_ids, Go.Cdc.bys_pure] <;> omega)), kp (show ∀ (c : List AV), c ∈ [AV.lit (Value.int IntKind.u8 1)] :: bys (num (uns n)) → List.all c AV.pureB = true from (by exact (Am.allm_cons rfl (Go.Cdc.bys_pure _))))] (by kernel_rfl)


theorem ren2_w (n : Int) (s : ByteArray) (l : List CV) (hs : s.size ≤ 10000000) (h0 : ¬ bys (num (s.size % 18446744073709551616)) = []) (h : (((1 + List.length (bys (num (ByteArray.size s % 18446744073709551616)))) * 1 ≤ 140737488355328) ∧ (((1 + List.length (bys (num (ByteArray.size s % 18446744073709551616))) + List.length (List.map (fun (c : UInt8) => [AV.lit (Value.int IntKind.u8 (↑(UInt8.toNat c) : Int))]) (Array.toList (ByteArray.data s)))) * 1 ≤ 140737488355328) ∧ ([AV.lit (Value.int IntKind.u8 2)] :: bys (num (ByteArray.size s % 18446744073709551616)) ++ List.map (fun (c : UInt8) => [AV.lit (Value.int IntKind.u8 (↑(UInt8.toNat c) : Int))]) (Array.toList (ByteArray.data s))) = (bys (2 :: (num (ByteArray.size s) ++ Array.toList (ByteArray.data s))))))) : CallC P G 76 [vmk 2 n s l] [] (AOut.ret (byt (2 :: (num (ByteArray.size s) ++ Array.toList (ByteArray.data s))))) [] := by
  obtain ⟨o1, h⟩ := h
  obtain ⟨o2, h⟩ := h
  have e1 := h
  exact CallC.out ((show CallC P G 76 [vmk 2 n s l] [] (AOut.ret (AV.sl 1 false ([AV.lit (Value.int IntKind.u8 2)] :: bys (num (ByteArray.size s % 18446744073709551616)) ++ List.map (fun (c : UInt8) => [AV.lit (Value.int IntKind.u8 (↑(UInt8.toNat c) : Int))]) (Array.toList (ByteArray.data s))))) [] from callC_of [kf (Eq.refl false), kt (Eq.refl true), kc [] (@Go.Cdc.rnumeral_c (ByteArray.size s % 18446744073709551616) (by omega)), ko (Orc.frz ([AV.lit (Value.int IntKind.u8 2)] :: bys (num (ByteArray.size s % 18446744073709551616)) ++ List.map (fun (c : UInt8) => [AV.lit (Value.int IntKind.u8 (↑(UInt8.toNat c) : Int))]) (Array.toList (ByteArray.data s)))), kp h0, kp o1, kp (show 0 = 0 from (rfl)), kp (show 1 + List.length (bys (num (ByteArray.size s % 18446744073709551616))) = List.length ([AV.lit (Value.int IntKind.u8 2)] :: bys (num (ByteArray.size s % 18446744073709551616))) from (by simp only [List.length_append, List.length_cons, List.length_nil, List.length_map, Go.Cdc.bys_length, Go.Cdc.bys_ids, Go.Cdc.bys_pure, Go.Cdc.bdata_length, Go.Cdc.strB_ids, Go.Cdc.strB_pure] <;> omega)), kp o2, kp (show 1 = 1 from (rfl)), kp (show List.take (1 + List.length (bys (num (ByteArray.size s % 18446744073709551616))) + List.length (List.map (fun (c : UInt8) => [AV.lit (Value.int IntKind.u8 (↑(UInt8.toNat c) : Int))]) (Array.toList (ByteArray.data s)))) (List.drop 0 ([AV.lit (Value.int IntKind.u8 2)] :: bys (num (ByteArray.size s % 18446744073709551616)) ++ List.map (fun (c : UInt8) => [AV.lit (Value.int IntKind.u8 (↑(UInt8.toNat c) : Int))]) (Array.toList (ByteArray.data s)))) = [AV.lit (Value.int IntKind.u8 2)] :: bys (num (ByteArray.size s % 18446744073709551616)) ++ List.map (fun (c : UInt8) => [AV.lit (Value.int IntKind.u8 (↑(UInt8.toNat c) : Int))]) (Array.toList (ByteArray.data s)) from (by rw [List.drop_zero, List.take_of_length_le (by simp only [List.length_append, List.length_cons, List.length_nil, List.length_map, Go.Cdc.bys_length, Go.Cdc.bys_ids, Go.Cdc.bys_pure, Go.Cdc.bdata_length, Go.Cdc.strB_ids, Go.Cdc.strB_pure] <;> omega)])), kp (show List.length ([AV.lit (Value.int IntKind.u8 2)] :: bys (num (ByteArray.size s % 18446744073709551616)) ++ List.map (fun (c : UInt8) => [AV.lit (Value.int IntKind.u8 (↑(UInt8.toNat c) : Int))]) (Array.toList (ByteArray.data s))) = 1 + List.length (bys (num (ByteArray.size s % 18446744073709551616))) + List.length (List.map (fun (c : UInt8) => [AV.lit (Value.int IntKind.u8 (↑(UInt8.toNat c) : Int))]) (Array.toList (ByteArray.data s))) from (by simp only [List.length_append, List.length_cons, List.length_nil, List.length_map, Go.Cdc.bys_length, Go.Cdc.bys_ids, Go.Cdc.bys_pure, Go.Cdc.bdata_length, Go.Cdc.strB_ids, Go.Cdc.strB_pure] <;> omega)), kp (show ∀ (c : List AV), c ∈ [AV.lit (Value.int IntKind.u8 2)] :: bys (num (ByteArray.size s % 18446744073709551616)) ++ List.map (fun (c : UInt8) => [AV.lit (Value.int IntKind.u8 (↑(UInt8.toNat c) : Int))]) (Array.toList (ByteArray.data s)) → List.all c AV.pureB = true from (by exact (Am.allm_append (Am.allm_cons rfl (Go.Cdc.bys_pure _)) (Go.Cdc.strB_pure _))))] (by kernel_rfl))) (Sub.list_eq e1)


def reSt (k n : Int) (s : ByteArray) (l : List CV) (xs : List (List AV)) (N g : Nat) (i : Nat) : St := { env := slots 50 [(1, .ptr 0 0), (3, .own 1 g 0 N), (4, int i)], H := [.box [int k, int n, str s, .sl 4 false (encL l)], .arr g 1 false xs] }

theorem re_end (k n : Int) (s : ByteArray) (l : List CV) (xs : List (List AV)) (N g i : Nat) (hi : l.length ≤ i) (h : True) : RunL P G none 0 (loopAt P 76 0) (reSt k n s l xs N g i) (AEx.exit 1) { env := slots 50 [(3, AV.own 1 g 0 N)], H := [AObj.gone, AObj.arr g 1 false xs] } := by
  have _ := h
  exact RunL.to (RunL.postH ((show RunL P G none 0 (loopAt P 76 0) (reSt k n s l xs N g i) (AEx.exit 1) { env := slots 50 [(3, AV.own 1 g 0 N)], H := [AObj.box [int k, int n, str s, AV.sl 4 false (encL l)], AObj.arr g 1 false xs] } from loop_exit [kv 37 (show Am.Sub (int (↑(List.length (encL l)) : Int)) (int (↑(List.length l) : Int)) from (Sub.of_eq (by simp only [Go.Cdc.encL_length]))), kf (show decide ((↑i : Int) < (↑(List.length l) : Int)) = false from (decide_eq_false (by omega)))] (others 50 [3]) 2 (by kernel_rfl))) (by exact ⟨.inr trivial, .inl rfl, trivial⟩)) rfl (SubS.slots ⟨rfl, Sub.refl _, trivial⟩)


theorem re_step (k n : Int) (s : ByteArray) (l : List CV) (xs : List (List AV)) (N g i : Nat) (x : CV) (b : List UInt8) (hN : xs.length = N) (hN2 : N ≤ 10000000) (hb : b.length ≤ 10000000) (hi : i < l.length) (hl : l.length ≤ 9223372036854775807) (hx : l[i]? = some x) (h0 : ¬ bys b = []) (hv : CallC P G 76 [val x] [] (.ret (byt b)) []) (ex : AEx) (s' : St) (h : RunL P G none 0 (loopAt P 76 0) { env := slots 50 [(1, AV.ptr 0 0), (3, AV.own 1 (g + 1) 0 (N + List.length (bys b))), (4, int (↑(i + 1) : Int))], H := [AObj.box [int k, int n, str s, AV.sl 4 false (encL l)], AObj.arr (g + 1) 1 false (xs ++ bys b)] } ex s') : RunL P G none 0 (loopAt P 76 0) (reSt k n s l xs N g i) ex s' := by
  exact loop_next [kv 37 (show Am.Sub (int (↑(List.length (encL l)) : Int)) (int (↑(List.length l) : Int)) from (Sub.of_eq (by simp only [Go.Cdc.encL_length]))), kt (show decide ((↑i : Int) < (↑(List.length l) : Int)) = true from (decide_eq_true (by omega))), ko (Orc.elem (enc x)), kp (show (0 : Int) ≤ (↑i : Int) ∧ (encL l)[Int.toNat (↑i : Int)]? = some (enc x) from (by rw [Go.Cdc.encL_map]; exact el_nat hx)), kc [] (@hv ), kp (show g = g from (rfl)), kp (show N = List.length xs from (by omega)), kp (show (N + List.length (bys b)) * 1 ≤ 140737488355328 from (by simp only [List.length_append, List.length_cons, List.length_nil, List.length_map, Go.Cdc.bys_length, Go.Cdc.bys_ids, Go.Cdc.bys_pure] <;> omega)), kv 40 (show Am.Sub (int (IntKind.wrap IntKind.i64 ((↑i : Int) + 1))) (int (↑(i + 1) : Int)) from (Sub.of_wrap (by omega) (by omega) (by omega)))] (others 50 [1, 3, 4]) 2 h (by kernel_rfl)


theorem ren3_w (k n : Int) (s : ByteArray) (l : List CV) (b : List UInt8) (g : Nat) (h1 : k ≠ 1) (h2 : k ≠ 2) (hl : l.length ≤ 10000000) (h0 : ¬ bys (num (l.length % 18446744073709551616)) = []) (hb : b.length ≤ 10000000) (hL : RunL P G none 0 (loopAt P 76 0) (reSt k n s l ([.lit (.int .u8 3)] :: bys (num (l.length % 18446744073709551616))) (1 + (bys (num (l.length % 18446744073709551616))).length) 0 0) (.exit 1) { env := slots 50 [(3, .own 1 g 0 b.length)], H := [.gone, .arr g 1 false (bys b)] }) (h : (((1 + List.length (bys (num (List.length l % 18446744073709551616)))) * 1 ≤ 140737488355328) ∧ True)) : CallC P G 76 [vmk k n s l] [] (AOut.ret (byt b)) [] := by
  obtain ⟨o3, h⟩ := h
  have _ := h
  exact callC_of [kf (show (k == 1) = false from (decide_eq_false (by omega))), kf (show (k == 2) = false from (decide_eq_false (by omega))), kv 30 (show Am.Sub (int (↑(List.length (encL l)) : Int)) (int (↑(List.length l) : Int)) from (Sub.of_eq (by simp only [Go.Cdc.encL_length]))), kc [] (@Go.Cdc.rnumeral_c (List.length l % 18446744073709551616) (by omega)), kp h0, kp o3, kl [0, 2, 5, 6, 7, 8, 9, 10, 11, 12, 13, 14, 15, 16, 17, 18, 19, 20, 21, 22, 23, 24, 25, 26, 27, 28, 29, 30, 31, 32, 33, 34, 35, 36, 37, 38, 39, 40, 41, 42, 43, 44, 45, 46, 47, 48, 49] 2 (@hL ), ko (Orc.frz (bys b)), kp (show g = g from (rfl)), kp (show List.take (List.length b) (List.drop 0 (bys b)) = bys b from (by rw [List.drop_zero, List.take_of_length_le (by simp only [List.length_append, List.length_cons, List.length_nil, List.length_map, Go.Cdc.bys_length, Go.Cdc.bys_ids, Go.Cdc.bys_pure] <;> omega)])), kp (show List.length (bys b) = List.length b from (Go.Cdc.bys_length _)), kp (show ∀ (c : List AV), c ∈ bys b → List.all c AV.pureB = true from (Go.Cdc.bys_pure _))] (by kernel_rfl)


theorem renc_bad (v : CV) (e : Int) (hv : CallC P G 75 [val v] [] (.ret (int e)) []) (he : e ≠ 0) (h : True) : CallC P G 72 [val v] [] (AOut.ret (AV.tup [nilS, int e])) [] := by
  have _ := h
  exact callC_of [kc [] (@hv ), kt (show (e != 0) = true from (congrArg Bool.not (decide_eq_false (by omega))))] (by kernel_rfl)


theorem renc_ok (v : CV) (b : List UInt8) (hv : CallC P G 75 [val v] [] (.ret (int 0)) []) (hw : CallC P G 76 [val v] [] (.ret (byt b)) []) (h : True) : CallC P G 72 [val v] [] (AOut.ret (AV.tup [byt b, int 0])) [] := by
  have _ := h
  exact callC_of [kc [] (@hv ), kf (Eq.refl false), kc [] (@hw )] (by kernel_rfl)


end Go.Cdc

/- CODEC, 10: contracts of Same, and of the reference's encoder. -/
namespace Go.Cdc
set_option maxRecDepth 100000
set_option linter.unusedSimpArgs false
set_option linter.unusedVariables false
open Go Go.Am Go.Proofs Go.Seat

theorem smL_len : ∀ {l m : List CV}, smL l m = true → l.length = m.length
  | [], [], _ => rfl
  | a :: l, b :: m, h => by
    simp only [smL, Bool.and_eq_true] at h
    simp only [List.length_cons, smL_len h.2]
  | [], _ :: _, h => by simp [smL] at h
  | _ :: _, [], h => by simp [smL] at h
theorem sm_iff_all : (∀ a : CV, ∀ b : CV, sm a b = true ↔ a = b) := by
  refine fun a => CV.ind (p := fun a => ∀ b : CV, sm a b = true ↔ a = b) (fun k n s l ih => ?_) a
  have hl : ∀ (l m : List CV), (∀ x ∈ l, ∀ b : CV, sm x b = true ↔ x = b) → (smL l m = true ↔ l = m) := by
    intro l
    induction l with
    | nil => intro m _; cases m <;> simp [smL]
    | cons x l ihl =>
      intro m hx
      cases m with
      | nil => simp [smL]
      | cons y m =>
        simp only [smL, Bool.and_eq_true, hx x (List.mem_cons_self) y, ihl m fun z hz => hx z (List.mem_cons_of_mem _ hz), List.cons.injEq]
  intro b
  cases b with
  | mk k' n' s' l' =>
    simp only [sm, Bool.and_eq_true, decide_eq_true_eq, hl l l' ih, CV.mk.injEq]
    constructor
    · rintro ⟨⟨⟨h1, h2⟩, h3⟩, h4⟩; exact ⟨h1, h2, h3, h4⟩
    · rintro ⟨h1, h2, h3, h4⟩; exact ⟨⟨⟨h1, h2⟩, h3⟩, h4⟩
theorem sm_iff {a b : CV} : sm a b = true ↔ a = b := sm_iff_all a b
theorem sm_self (a : CV) : sm a a = true := sm_iff.2 rfl

theorem drop_get {α : Type} {l : List α} {i : Nat} (h : i < l.length) : l.drop i = l[i] :: l.drop (i + 1) := List.drop_eq_getElem_cons h

theorem smL_ne : ∀ {l m : List CV}, l.length ≠ m.length → smL l m = false := fun h => Bool.eq_false_iff.2 fun e => h (smL_len e)
theorem bys_ne {l : List UInt8} (h : 1 ≤ l.length) : ¬ bys l = [] := fun e => by
  have := congrArg List.length e
  rw [bys_length, List.length_nil] at this; omega
theorem re_loop (k n : Int) (s : ByteArray) (l : List CV) (hl : l.length ≤ 9223372036854775807) (hv : ∀ x ∈ l, (encB x).length ≤ 10000000 → CallC P G 76 [val x] [] (.ret (byt (encB x))) []) : ∀ (c i : Nat) (a : List UInt8) (g : Nat), l.length - i = c → i ≤ l.length → a.length + (encBL (l.drop i)).length ≤ 10000000 →
    RunL P G none 0 (loopAt P 76 0) (reSt k n s l (bys a) a.length g i) (.exit 1) { env := slots 50 [(3, .own 1 (g + (l.length - i)) 0 (a ++ encBL (l.drop i)).length)], H := [.gone, .arr (g + (l.length - i)) 1 false (bys (a ++ encBL (l.drop i)))] } := by
  intro c
  induction c with
  | zero =>
    intro i a g hc hi hlen
    rw [List.drop_of_length_le (by omega), hc]
    simp only [encBL, List.append_nil, Nat.add_zero]
    exact re_end k n s l (bys a) a.length g i (by omega) trivial
  | succ c ih =>
    intro i a g hc hi hlen
    have hlt : i < l.length := by omega
    rw [drop_get hlt] at hlen ⊢
    simp only [encBL, List.length_append] at hlen
    refine re_step k n s l (bys a) a.length g i l[i] (encB l[i]) (bys_length a) (by omega) (by omega) hlt hl (List.getElem?_eq_getElem hlt) (bys_ne (encB_pos _)) (hv _ (List.getElem_mem hlt) (by omega)) _ _ ?_
    have := ih (i + 1) (a ++ encB l[i]) (g + 1) (by omega) (by omega) (by rw [List.length_append]; omega)
    rw [bys_length, bys_append]
    simp only [encBL]
    rw [show g + (l.length - i) = g + 1 + (l.length - (i + 1)) by omega, ← List.append_assoc]
    rw [show a.length + (encB l[i]).length = (a ++ encB l[i]).length by rw [List.length_append]]
    exact this
theorem renc_c (v : CV) : Okv v → (encB v).length ≤ 10000000 → CallC P G 76 [val v] [] (.ret (byt (encB v))) [] := by
  refine CV.ind (p := fun v => Okv v → (encB v).length ≤ 10000000 → CallC P G 76 [val v] [] (.ret (byt (encB v))) []) (fun k n s l ih hok hlen => ?_) v
  cases hok with
  | mk _ _ _ _ hn hs hl hall =>
    rw [val_mk]
    by_cases h1 : k = 1
    · subst h1
      have e1 : encB (.mk 1 n s l) = 1 :: num (uns n) := by simp [encB]
      rw [e1]
      have := num_len (uns n)
      exact ren1_w n s l hn (uns_lt hn) (bys_ne (by omega)) ⟨by rw [bys_length]; omega, trivial⟩
    · by_cases h2 : k = 2
      · subst h2
        have e1 : encB (.mk 2 n s l) = 2 :: (num s.size ++ s.data.toList) := by simp [encB]
        rw [e1] at hlen ⊢
        simp only [List.length_append, List.length_cons, bdata_length] at hlen
        have em := u64mod (n := s.size) (by omega)
        have := num_len s.size
        refine ren2_w n s l (by omega) (bys_ne (by rw [em]; omega)) ⟨?_, ?_, ?_⟩ <;> rw [em]
        · rw [bys_length]; omega
        · simp only [List.length_map, bdata_length, bys_length]; omega
        · rw [bys_cons, bys_app]; rfl
      · have e1 : encB (.mk k n s l) = 3 :: (num l.length ++ encBL l) := by simp [encB, h1, h2]
        rw [e1] at hlen ⊢
        simp only [List.length_append, List.length_cons] at hlen
        have hll := encBL_len l
        have em := u64mod (n := l.length) (by omega)
        have := num_len l.length
        have hL := re_loop k n s l hl (fun x hx => ih x hx (hall x hx)) l.length 0 (3 :: num l.length) 0 (by omega) (by omega) (by rw [List.drop_zero]; simp only [List.length_cons]; omega)
        rw [List.drop_zero, List.cons_append] at hL
        refine ren3_w k n s l (3 :: (num l.length ++ encBL l)) (0 + (l.length - 0)) h1 h2 (by omega) (bys_ne (by rw [em]; omega)) (by simp only [List.length_append, List.length_cons]; omega) ?_ ⟨by rw [em, bys_length]; omega, trivial⟩
        rw [em]
        have e4 : 1 + (bys (num l.length)).length = (3 :: num l.length).length := by rw [bys_length]; simp only [List.length_cons]; omega
        rw [e4]
        exact hL
theorem rencode_c (v : CV) (hok : Okv v) (hd : dp v ≤ 1000001) (hlen : chkE v = 0 → (encB v).length ≤ 10000000) : CallC P G 72 [val v] [] (.ret (.tup [byt (encE v), int (chkE v)])) [] := by
  have hc := rcheck_c v hok hd
  unfold encE
  by_cases h : chkE v = 0
  · rw [if_pos h]
    rw [h] at hc ⊢
    exact renc_ok v _ hc (renc_c v hok (hlen h)) trivial
  · rw [if_neg h]
    exact CallC.out (renc_bad v _ hc h trivial) (.tup2 (.nil 1) (.refl _))
end Go.Cdc

/- CODEC, 11: the reference's reader: next, number. -/
namespace Go.Cdc
set_option maxRecDepth 100000
set_option linter.unusedSimpArgs false
set_option linter.unusedVariables false
open Go Go.Am Go.Proofs Go.Seat

/-- The reference's reader. -/
def rr (b : List UInt8) (at' : Nat) (bad : Bool) : List AObj := [.box [byt b, int at', bool bad]]

theorem nx_end (b : List UInt8) (i : Nat) (bad : Bool) (hi : b.length ≤ i) (h : True) : CallC P G 92 [AV.ptr 0 0] (rr b i bad) (AOut.ret (u8 0)) (rr b i true) := by
  have _ := h
  exact callC_of [kv 11 (show Am.Sub (int (↑(List.length (bys b)) : Int)) (int (↑(List.length b) : Int)) from (Sub.of_eq (by simp only [Go.Cdc.bys_length]))), kt (show decide ((↑i : Int) ≥ (↑(List.length b) : Int)) = true from (decide_eq_true (by omega)))] (by kernel_rfl)


theorem nx_ok (b : List UInt8) (i : Nat) (bad : Bool) (c : UInt8) (hi : i < b.length) (hl : b.length ≤ 1000000000) (hx : b[i]? = some c) (h : (∃ x2 : UInt8, ((0 : Int) ≤ (↑(i + 1) : Int) - 1 ∧ b[Int.toNat ((↑(i + 1) : Int) - 1)]? = some x2) ∧ ((↑(UInt8.toNat x2) : Int) : Int) = ((↑(UInt8.toNat c) : Int)))) : CallC P G 92 [AV.ptr 0 0] (rr b i bad) (AOut.ret (u8 c)) (rr b (i + 1) bad) := by
  obtain ⟨x2, o3, h⟩ := h
  have e1 := h
  exact callC_out (Sub.int_eq e1) [kv 11 (show Am.Sub (int (↑(List.length (bys b)) : Int)) (int (↑(List.length b) : Int)) from (Sub.of_eq (by simp only [Go.Cdc.bys_length]))), kf (show decide ((↑i : Int) ≥ (↑(List.length b) : Int)) = false from (decide_eq_false (by omega))), kv 20 (show Am.Sub (int (IntKind.wrap IntKind.i64 ((↑i : Int) + 1))) (int (↑(i + 1) : Int)) from (Sub.of_wrap (by omega) (by omega) (by omega))), kv 31 (show Am.Sub (int (IntKind.wrap IntKind.i64 ((↑(i + 1) : Int) - 1))) (int ((↑(i + 1) : Int) - 1)) from (Sub.of_wrap (by omega) (by omega) rfl)), ko (Orc.elem (byt1 x2)), kp (show (0 : Int) ≤ (↑(i + 1) : Int) - 1 ∧ (bys b)[Int.toNat ((↑(i + 1) : Int) - 1)]? = some (byt1 x2) from (el_int o3))] (by kernel_rfl)


def rnSt (b : List UInt8) (a u i : Nat) : St := { env := slots 43 [(0, .ptr 0 0), (2, u64 0), (3, u64 u), (4, int i)], H := rr b a false }

theorem rn_end (b : List UInt8) (a u i : Nat) (ha : b.length ≤ a) (hi : i ≤ 9) (hu : u < 18446744073709551616) (hu0 : i = 0 → u = 0) (h : ((((↑i : Int) = (9 : Int)) → True) ∧ ((¬(↑i : Int) = (9 : Int)) → ((((↑i : Int) > (0 : Int)) → True) ∧ ((¬(↑i : Int) > (0 : Int)) → (IntKind.wrap IntKind.u64 ((↑u : Int) + IntKind.wrap IntKind.u64 (0 * 2 ^ min (Int.toNat (7 * (↑i : Int))) (IntKind.bits IntKind.u64))) : Int) = ((↑0 : Int))))))) : RunL P G none 1 (loopAt P 93 0) (rnSt b a u i) AEx.ret { env := slots 43 [(2, u64 0)], H := rr b a true } := by
  have hz0 := (@Go.Cdc.nx_end (b) (a) (false) (by omega) (trivial))
  by_cases c1 : ((↑i : Int) = (9 : Int))
  · have h := h.1 c1
    have _ := h
    exact loop_exit [kt (Eq.refl true), kc [0] hz0, kt (beq_iff_eq.2 c1), kf (Eq.refl false), kt (show decide ((↑i : Int) > (0 : Int)) = true from (decide_eq_true (by omega))), kt (Eq.refl true)] (others 43 [2]) 1 (by kernel_rfl)
  · have h := h.2 c1
    by_cases c3 : ((↑i : Int) > (0 : Int))
    · have h := h.1 c3
      have _ := h
      exact loop_exit [kt (Eq.refl true), kc [0] hz0, kf (beq_eq_false_iff_ne.2 c1), kf (Eq.refl false), kt (decide_eq_true c3), kt (Eq.refl true)] (others 43 [2]) 1 (by kernel_rfl)
    · have h := h.2 c3
      have e1 := h
      exact RunL.to ((show RunL P G none 1 (loopAt P 93 0) (rnSt b a u i) AEx.ret { env := slots 43 [(2, AV.lit (Value.int IntKind.u64 (IntKind.wrap IntKind.u64 ((↑u : Int) + IntKind.wrap IntKind.u64 (0 * 2 ^ min (Int.toNat (7 * (↑i : Int))) (IntKind.bits IntKind.u64))))))], H := [AObj.box [AV.sl 1 false (bys b), int (↑a : Int), Am.bool true]] } from loop_exit [kt (Eq.refl true), kc [0] hz0, kf (beq_eq_false_iff_ne.2 c1), kf (Eq.refl false), kf (decide_eq_false c3), kf (Eq.refl false), kp (show (128 : Int) ≠ (0 : Int) from (by omega)), kv 37 (show Am.Sub (int (IntKind.wrap IntKind.i64 (7 * (↑i : Int)))) (int (7 * (↑i : Int))) from (Sub.of_wrap (by omega) (by omega) rfl)), kp (show (0 : Int) ≤ 7 * (↑i : Int) from (by omega)), kt (Eq.refl true)] (others 43 [2]) 1 (by kernel_rfl))) rfl (SubS.slots ⟨rfl, (Sub.int_eq e1), trivial⟩)


theorem rn_step (b : List UInt8) (a u i : Nat) (c : UInt8) (hv : CallC P G 92 [.ptr 0 0] (rr b a false) (.ret (u8 c)) (rr b (a + 1) false)) (hi : i ≤ 9) (ex : AEx) (v : Int) (o : AObj) (h : ((((↑i : Int) = (9 : Int)) → ((((↑(UInt8.toNat c) : Int) > (1 : Int)) → (AEx.ret = ex) ∧ ((0 : Int) = (v)) ∧ ([AObj.box [AV.sl 1 false (bys b), int (↑(a + 1) : Int), Am.bool true]] = [o])) ∧ ((¬(↑(UInt8.toNat c) : Int) > (1 : Int)) → ((((↑(UInt8.toNat c) : Int) = (0 : Int)) → (AEx.ret = ex) ∧ ((0 : Int) = (v)) ∧ ([AObj.box [AV.sl 1 false (bys b), int (↑(a + 1) : Int), Am.bool true]] = [o])) ∧ ((¬(↑(UInt8.toNat c) : Int) = (0 : Int)) → (AEx.ret = ex) ∧ ((IntKind.wrap IntKind.u64 ((↑u : Int) + IntKind.wrap IntKind.u64 (IntKind.wrap IntKind.u64 (Int.tmod (↑(UInt8.toNat c) : Int) 128) * 2 ^ min (Int.toNat (7 * (↑i : Int))) (IntKind.bits IntKind.u64))) : Int) = (v)) ∧ ([AObj.box [AV.sl 1 false (bys b), int (↑(a + 1) : Int), Am.bool false]] = [o])))))) ∧ ((¬(↑i : Int) = (9 : Int)) → ((((↑i : Int) > (0 : Int)) → ((((↑(UInt8.toNat c) : Int) = (0 : Int)) → (AEx.ret = ex) ∧ ((0 : Int) = (v)) ∧ ([AObj.box [AV.sl 1 false (bys b), int (↑(a + 1) : Int), Am.bool true]] = [o])) ∧ ((¬(↑(UInt8.toNat c) : Int) = (0 : Int)) → ((((↑(UInt8.toNat c) : Int) < (128 : Int)) → (AEx.ret = ex) ∧ ((IntKind.wrap IntKind.u64 ((↑u : Int) + IntKind.wrap IntKind.u64 (IntKind.wrap IntKind.u64 (Int.tmod (↑(UInt8.toNat c) : Int) 128) * 2 ^ min (Int.toNat (7 * (↑i : Int))) (IntKind.bits IntKind.u64))) : Int) = (v)) ∧ ([AObj.box [AV.sl 1 false (bys b), int (↑(a + 1) : Int), Am.bool false]] = [o])) ∧ ((¬(↑(UInt8.toNat c) : Int) < (128 : Int)) → RunL P G none 1 (loopAt P 93 0) { env := slots 43 [(0, AV.ptr 0 0), (2, AV.lit (Value.int IntKind.u64 0)), (3, AV.lit (Value.int IntKind.u64 (IntKind.wrap IntKind.u64 ((↑u : Int) + IntKind.wrap IntKind.u64 (IntKind.wrap IntKind.u64 (Int.tmod (↑(UInt8.toNat c) : Int) 128) * 2 ^ min (Int.toNat (7 * (↑i : Int))) (IntKind.bits IntKind.u64)))))), (4, int (↑(i + 1) : Int))], H := [AObj.box [AV.sl 1 false (bys b), int (↑(a + 1) : Int), Am.bool false]] } ex { env := slots 43 [(2, AV.lit (Value.int IntKind.u64 v))], H := [o] }))))) ∧ ((¬(↑i : Int) > (0 : Int)) → ((((↑(UInt8.toNat c) : Int) < (128 : Int)) → (AEx.ret = ex) ∧ ((IntKind.wrap IntKind.u64 ((↑u : Int) + IntKind.wrap IntKind.u64 (IntKind.wrap IntKind.u64 (Int.tmod (↑(UInt8.toNat c) : Int) 128) * 2 ^ min (Int.toNat (7 * (↑i : Int))) (IntKind.bits IntKind.u64))) : Int) = (v)) ∧ ([AObj.box [AV.sl 1 false (bys b), int (↑(a + 1) : Int), Am.bool false]] = [o])) ∧ ((¬(↑(UInt8.toNat c) : Int) < (128 : Int)) → RunL P G none 1 (loopAt P 93 0) { env := slots 43 [(0, AV.ptr 0 0), (2, AV.lit (Value.int IntKind.u64 0)), (3, AV.lit (Value.int IntKind.u64 (IntKind.wrap IntKind.u64 ((↑u : Int) + IntKind.wrap IntKind.u64 (IntKind.wrap IntKind.u64 (Int.tmod (↑(UInt8.toNat c) : Int) 128) * 2 ^ min (Int.toNat (7 * (↑i : Int))) (IntKind.bits IntKind.u64)))))), (4, int (↑(i + 1) : Int))], H := [AObj.box [AV.sl 1 false (bys b), int (↑(a + 1) : Int), Am.bool false]] } ex { env := slots 43 [(2, AV.lit (Value.int IntKind.u64 v))], H := [o] }))))))) : RunL P G none 1 (loopAt P 93 0) (rnSt b a u i) ex { env := slots 43 [(2, AV.lit (Value.int IntKind.u64 v))], H := [o] } := by
  have hz0 := (@hv )
  by_cases c1 : ((↑i : Int) = (9 : Int))
  · have h := h.1 c1
    by_cases c2 : ((↑(UInt8.toNat c) : Int) > (1 : Int))
    · have h := h.1 c2
      obtain ⟨eX, e1, eH⟩ := h
      exact RunL.to ((show RunL P G none 1 (loopAt P 93 0) (rnSt b a u i) AEx.ret { env := slots 43 [(2, AV.lit (Value.int IntKind.u64 0))], H := [AObj.box [AV.sl 1 false (bys b), int (↑(a + 1) : Int), Am.bool true]] } from loop_exit [kt (Eq.refl true), kc [0] hz0, kt (beq_iff_eq.2 c1), kt (decide_eq_true c2), kt (Eq.refl true)] (others 43 [2]) 1 (by kernel_rfl))) eX (SubS.slotsH ⟨rfl, (Sub.int_eq e1), trivial⟩ eH)
    · have h := h.2 c2
      have hz1 : decide ((↑i : Int) > (0 : Int)) = true := (decide_eq_true (by omega))
      by_cases c4 : ((↑(UInt8.toNat c) : Int) = (0 : Int))
      · have h := h.1 c4
        obtain ⟨eX, e1, eH⟩ := h
        exact RunL.to ((show RunL P G none 1 (loopAt P 93 0) (rnSt b a u i) AEx.ret { env := slots 43 [(2, AV.lit (Value.int IntKind.u64 0))], H := [AObj.box [AV.sl 1 false (bys b), int (↑(a + 1) : Int), Am.bool true]] } from loop_exit [kt (Eq.refl true), kc [0] hz0, kt (beq_iff_eq.2 c1), kf (decide_eq_false c2), kt hz1, kt (beq_iff_eq.2 c4)] (others 43 [2]) 1 (by kernel_rfl))) eX (SubS.slotsH ⟨rfl, (Sub.int_eq e1), trivial⟩ eH)
      · have h := h.2 c4
        obtain ⟨eX, e1, eH⟩ := h
        exact RunL.to ((show RunL P G none 1 (loopAt P 93 0) (rnSt b a u i) AEx.ret { env := slots 43 [(2, AV.lit (Value.int IntKind.u64 (IntKind.wrap IntKind.u64 ((↑u : Int) + IntKind.wrap IntKind.u64 (IntKind.wrap IntKind.u64 (Int.tmod (↑(UInt8.toNat c) : Int) 128) * 2 ^ min (Int.toNat (7 * (↑i : Int))) (IntKind.bits IntKind.u64))))))], H := [AObj.box [AV.sl 1 false (bys b), int (↑(a + 1) : Int), Am.bool false]] } from loop_exit [kt (Eq.refl true), kc [0] hz0, kt (beq_iff_eq.2 c1), kf (decide_eq_false c2), kt hz1, kf (beq_eq_false_iff_ne.2 c4), kp (show (128 : Int) ≠ (0 : Int) from (by omega)), kv 37 (show Am.Sub (int (IntKind.wrap IntKind.i64 (7 * (↑i : Int)))) (int (7 * (↑i : Int))) from (Sub.of_wrap (by omega) (by omega) rfl)), kp (show (0 : Int) ≤ 7 * (↑i : Int) from (by omega)), kt (show decide ((↑(UInt8.toNat c) : Int) < (128 : Int)) = true from (decide_eq_true (by omega)))] (others 43 [2]) 1 (by kernel_rfl))) eX (SubS.slotsH ⟨rfl, (Sub.int_eq e1), trivial⟩ eH)
  · have h := h.2 c1
    by_cases c6 : ((↑i : Int) > (0 : Int))
    · have h := h.1 c6
      by_cases c7 : ((↑(UInt8.toNat c) : Int) = (0 : Int))
      · have h := h.1 c7
        obtain ⟨eX, e1, eH⟩ := h
        exact RunL.to ((show RunL P G none 1 (loopAt P 93 0) (rnSt b a u i) AEx.ret { env := slots 43 [(2, AV.lit (Value.int IntKind.u64 0))], H := [AObj.box [AV.sl 1 false (bys b), int (↑(a + 1) : Int), Am.bool true]] } from loop_exit [kt (Eq.refl true), kc [0] hz0, kf (beq_eq_false_iff_ne.2 c1), kf (Eq.refl false), kt (decide_eq_true c6), kt (beq_iff_eq.2 c7)] (others 43 [2]) 1 (by kernel_rfl))) eX (SubS.slotsH ⟨rfl, (Sub.int_eq e1), trivial⟩ eH)
      · have h := h.2 c7
        by_cases c8 : ((↑(UInt8.toNat c) : Int) < (128 : Int))
        · have h := h.1 c8
          obtain ⟨eX, e1, eH⟩ := h
          exact RunL.to ((show RunL P G none 1 (loopAt P 93 0) (rnSt b a u i) AEx.ret { env := slots 43 [(2, AV.lit (Value.int IntKind.u64 (IntKind.wrap IntKind.u64 ((↑u : Int) + IntKind.wrap IntKind.u64 (IntKind.wrap IntKind.u64 (Int.tmod (↑(UInt8.toNat c) : Int) 128) * 2 ^ min (Int.toNat (7 * (↑i : Int))) (IntKind.bits IntKind.u64))))))], H := [AObj.box [AV.sl 1 false (bys b), int (↑(a + 1) : Int), Am.bool false]] } from loop_exit [kt (Eq.refl true), kc [0] hz0, kf (beq_eq_false_iff_ne.2 c1), kf (Eq.refl false), kt (decide_eq_true c6), kf (beq_eq_false_iff_ne.2 c7), kp (show (128 : Int) ≠ (0 : Int) from (by omega)), kv 37 (show Am.Sub (int (IntKind.wrap IntKind.i64 (7 * (↑i : Int)))) (int (7 * (↑i : Int))) from (Sub.of_wrap (by omega) (by omega) rfl)), kp (show (0 : Int) ≤ 7 * (↑i : Int) from (by omega)), kt (decide_eq_true c8)] (others 43 [2]) 1 (by kernel_rfl))) eX (SubS.slotsH ⟨rfl, (Sub.int_eq e1), trivial⟩ eH)
        · have h := h.2 c8
          exact loop_next [kt (Eq.refl true), kc [0] hz0, kf (beq_eq_false_iff_ne.2 c1), kf (Eq.refl false), kt (decide_eq_true c6), kf (beq_eq_false_iff_ne.2 c7), kp (show (128 : Int) ≠ (0 : Int) from (by omega)), kv 37 (show Am.Sub (int (IntKind.wrap IntKind.i64 (7 * (↑i : Int)))) (int (7 * (↑i : Int))) from (Sub.of_wrap (by omega) (by omega) rfl)), kp (show (0 : Int) ≤ 7 * (↑i : Int) from (by omega)), kf (decide_eq_false c8), kv 12 (show Am.Sub (int (IntKind.wrap IntKind.i64 ((↑i : Int) + 1))) (int (↑(i + 1) : Int)) from (Sub.of_wrap (by omega) (by omega) (by omega)))] (others 43 [0, 2, 3, 4]) 1 h (by kernel_rfl)
    · have h := h.2 c6
      by_cases c9 : ((↑(UInt8.toNat c) : Int) < (128 : Int))
      · have h := h.1 c9
        obtain ⟨eX, e1, eH⟩ := h
        exact RunL.to ((show RunL P G none 1 (loopAt P 93 0) (rnSt b a u i) AEx.ret { env := slots 43 [(2, AV.lit (Value.int IntKind.u64 (IntKind.wrap IntKind.u64 ((↑u : Int) + IntKind.wrap IntKind.u64 (IntKind.wrap IntKind.u64 (Int.tmod (↑(UInt8.toNat c) : Int) 128) * 2 ^ min (Int.toNat (7 * (↑i : Int))) (IntKind.bits IntKind.u64))))))], H := [AObj.box [AV.sl 1 false (bys b), int (↑(a + 1) : Int), Am.bool false]] } from loop_exit [kt (Eq.refl true), kc [0] hz0, kf (beq_eq_false_iff_ne.2 c1), kf (Eq.refl false), kf (decide_eq_false c6), kf (Eq.refl false), kp (show (128 : Int) ≠ (0 : Int) from (by omega)), kv 37 (show Am.Sub (int (IntKind.wrap IntKind.i64 (7 * (↑i : Int)))) (int (7 * (↑i : Int))) from (Sub.of_wrap (by omega) (by omega) rfl)), kp (show (0 : Int) ≤ 7 * (↑i : Int) from (by omega)), kt (decide_eq_true c9)] (others 43 [2]) 1 (by kernel_rfl))) eX (SubS.slotsH ⟨rfl, (Sub.int_eq e1), trivial⟩ eH)
      · have h := h.2 c9
        exact loop_next [kt (Eq.refl true), kc [0] hz0, kf (beq_eq_false_iff_ne.2 c1), kf (Eq.refl false), kf (decide_eq_false c6), kf (Eq.refl false), kp (show (128 : Int) ≠ (0 : Int) from (by omega)), kv 37 (show Am.Sub (int (IntKind.wrap IntKind.i64 (7 * (↑i : Int)))) (int (7 * (↑i : Int))) from (Sub.of_wrap (by omega) (by omega) rfl)), kp (show (0 : Int) ≤ 7 * (↑i : Int) from (by omega)), kf (decide_eq_false c9), kv 12 (show Am.Sub (int (IntKind.wrap IntKind.i64 ((↑i : Int) + 1))) (int (↑(i + 1) : Int)) from (Sub.of_wrap (by omega) (by omega) (by omega)))] (others 43 [0, 2, 3, 4]) 1 h (by kernel_rfl)


theorem rnumber_w (b : List UInt8) (a a' u : Nat) (bad : Bool) (hL : RunL P G none 1 (loopAt P 93 0) (rnSt b a 0 0) .ret { env := slots 43 [(2, u64 u)], H := rr b a' bad }) (h : True) : CallC P G 93 [AV.ptr 0 0] (rr b a false) (AOut.ret (u64 u)) (rr b a' bad) := by
  have _ := h
  exact callC_of [kl [1, 5, 6, 7, 8, 9, 10, 11, 12, 13, 14, 15, 16, 17, 18, 19, 20, 21, 22, 23, 24, 25, 26, 27, 28, 29, 30, 31, 32, 33, 34, 35, 36, 37, 38, 39, 40, 41, 42] 1 (@hL )] (by kernel_rfl)


theorem next_ok (b : List UInt8) (i : Nat) (bad : Bool) (c : UInt8) (hl : b.length ≤ 1000000000) (hx : b[i]? = some c) : CallC P G 92 [.ptr 0 0] (rr b i bad) (.ret (u8 c)) (rr b (i + 1) bad) := by
  have hi : i < b.length := by
    rcases Nat.lt_or_ge i b.length with h | h
    · exact h
    · rw [List.getElem?_eq_none h] at hx; cases hx
  exact nx_ok b i bad c hi hl hx ⟨c, ⟨by omega, by rw [show (((i + 1 : Nat) : Int) - 1).toNat = i by omega]; exact hx⟩, rfl⟩
theorem rnum1_eq {u : Nat} {c : UInt8} {i : Nat} (hu : u < 2 ^ (7 * i)) (hi : i ≤ 9) (hc : i = 9 → c.toNat ≤ 1) : IntKind.wrap IntKind.u64 ((↑u : Int) + IntKind.wrap IntKind.u64 (IntKind.wrap IntKind.u64 (Int.tmod (↑(UInt8.toNat c) : Int) 128) * 2 ^ min (Int.toNat (7 * (↑i : Int))) (IntKind.bits IntKind.u64))) = ((u + c.toNat % 128 * 2 ^ (7 * i) : Nat) : Int) := by
  have hfit := (digit_fits hu hi hc).2
  have e2 : (7 * (i : Int)).toNat = 7 * i := by omega
  have e3 : min (7 * i) (IntKind.bits IntKind.u64) = 7 * i := by show min (7 * i) 64 = _; omega
  have e1 : Int.tmod (↑(UInt8.toNat c) : Int) 128 = ((c.toNat % 128 : Nat) : Int) := rfl
  rw [e1, e2, e3, wrap64 (show c.toNat % 128 < 18446744073709551616 by omega)]
  have e4 : ((c.toNat % 128 : Nat) : Int) * 2 ^ (7 * i) = ((c.toNat % 128 * 2 ^ (7 * i) : Nat) : Int) := by push_cast; rfl
  rw [e4, wrap64 (show c.toNat % 128 * 2 ^ (7 * i) < 18446744073709551616 by omega), show ((u : Int) + ((c.toNat % 128 * 2 ^ (7 * i) : Nat) : Int)) = ((u + c.toNat % 128 * 2 ^ (7 * i) : Nat) : Int) by push_cast; rfl, wrap64 hfit]
theorem drop_cons {b : List UInt8} {a : Nat} {c : UInt8} {r : List UInt8} (h : b.drop a = c :: r) : b[a]? = some c ∧ b.drop (a + 1) = r ∧ b.length = a + 1 + r.length := by
  have h1 : b[a]? = some c := by
    have := congrArg (fun l => l[0]?) h
    simpa using this
  have h2 : b.drop (a + 1) = r := by
    have := congrArg (List.drop 1) h
    simpa [List.drop_drop, Nat.add_comm] using this
  refine ⟨h1, h2, ?_⟩
  have := congrArg List.length h
  simp at this
  omega
theorem rn_loop (b : List UInt8) (hl : b.length ≤ 1000000000) : ∀ (l : List UInt8) (a u i : Nat), b.drop a = l → a ≤ b.length → u < 2 ^ (7 * i) → i ≤ 9 →
    ∃ a' : Nat, a' ≤ b.length ∧ ((numF l u i).1 = true → b.drop a' = (numF l u i).2.2) ∧
      RunL P G none 1 (loopAt P 93 0) (rnSt b a u i) .ret { env := slots 43 [(2, u64 (if (numF l u i).1 = true then (numF l u i).2.1 else 0))], H := rr b a' (!(numF l u i).1) }
  | [], a, u, i, ha, hab, hu, hi => by
    have hlen : b.length ≤ a := by
      have := congrArg List.length ha
      simp at this; omega
    refine ⟨a, hab, fun h => by simp [numF] at h, ?_⟩
    refine rn_end b a u i hlen hi ?_ ?_ ⟨fun _ => trivial, fun _ => ⟨fun _ => trivial, fun h => ?_⟩⟩
    · have : 2 ^ (7 * i) ≤ 2 ^ 63 := Nat.pow_le_pow_right (by decide) (by omega)
      have e : (2 : Nat) ^ 63 = 9223372036854775808 := by decide
      omega
    · intro h; subst h; simpa using hu
    · have hi0 : i = 0 := by omega
      subst hi0
      have hu0 : u = 0 := by simpa using hu
      subst hu0
      rfl
  | c :: r, a, u, i, ha, hab, hu, hi => by
    obtain ⟨hx, hd, hlen⟩ := drop_cons ha
    have hv := next_ok b a false c hl hx
    have hc8 : c.toNat < 256 := c.toNat_lt
    by_cases hbad : (i ≠ 0 ∧ c.toNat = 0) ∨ (9 ≤ i ∧ 1 < c.toNat)
    · have e : numF (c :: r) u i = (false, u, r) := by simp only [numF]; rw [if_pos hbad]
      rw [e]
      refine ⟨a + 1, by omega, (fun h => by cases h), ?_⟩
      refine rn_step b a u i c hv hi _ 0 _ ⟨fun h9 => ⟨fun h1 => ⟨rfl, rfl, rfl⟩, fun h1 => ⟨fun h0 => ⟨rfl, rfl, rfl⟩, fun h0 => ?_⟩⟩, fun h9 => ⟨fun h0 => ⟨fun hc => ⟨rfl, rfl, rfl⟩, fun hc => ⟨fun hc1 => ?_, fun hc1 => ?_⟩⟩, fun h0 => ⟨fun hc => ?_, fun hc => ?_⟩⟩⟩ <;> omega
    · have h9c : i = 9 → c.toNat ≤ 1 := by omega
      by_cases hc : c.toNat < 128
      · have e : numF (c :: r) u i = (true, u + c.toNat % 128 * 2 ^ (7 * i), r) := by simp only [numF]; rw [if_neg hbad, if_pos hc]
        rw [e]
        refine ⟨a + 1, by omega, fun _ => hd, ?_⟩
        have en := rnum1_eq hu hi h9c
        refine rn_step b a u i c hv hi _ _ _ ⟨fun h9 => ⟨fun h1 => ?_, fun h1 => ⟨fun h0 => ?_, fun h0 => ⟨rfl, en, rfl⟩⟩⟩, fun h9 => ⟨fun h0 => ⟨fun hc => ?_, fun hc => ⟨fun hc1 => ⟨rfl, en, rfl⟩, fun hc1 => ?_⟩⟩, fun h0 => ⟨fun hc => ⟨rfl, en, rfl⟩, fun hc => ?_⟩⟩⟩ <;> omega
      · have e : numF (c :: r) u i = numF r (u + c.toNat % 128 * 2 ^ (7 * i)) (i + 1) := by
          simp only [numF]; rw [if_neg hbad, if_neg hc]
        rw [e]
        have hi' : i ≤ 8 := by omega
        obtain ⟨a', h1, h2, h3⟩ := rn_loop b hl r (a + 1) (u + c.toNat % 128 * 2 ^ (7 * i)) (i + 1) hd (by omega) (digit_fits hu hi h9c).1 (by omega)
        refine ⟨a', h1, h2, ?_⟩
        have en := rnum1_eq hu hi h9c
        refine rn_step b a u i c hv hi _ _ _ ⟨fun h9 => ⟨fun h1 => ?_, fun h1 => ⟨fun h0 => ?_, fun h0 => ?_⟩⟩, fun h9 => ⟨fun h0 => ⟨fun hc => ?_, fun hc => ⟨fun hc1 => ?_, fun hc1 => ?_⟩⟩, fun h0 => ⟨fun hc => ?_, fun hc => ?_⟩⟩⟩
        · omega
        · omega
        · omega
        · omega
        · omega
        · rw [en]; exact h3
        · omega
        · rw [en]; exact h3
theorem rnumber_c (b : List UInt8) (a : Nat) (hl : b.length ≤ 1000000000) (ha : a ≤ b.length) : ∃ a' : Nat, a' ≤ b.length ∧ (numOk (b.drop a) = true → b.drop a' = numR (b.drop a)) ∧
    CallC P G 93 [.ptr 0 0] (rr b a false) (.ret (u64 (if numOk (b.drop a) = true then numU (b.drop a) else 0))) (rr b a' (!numOk (b.drop a))) := by
  obtain ⟨a', h1, h2, h3⟩ := rn_loop b hl _ a 0 0 rfl ha (by simp) (by omega)
  exact ⟨a', h1, h2, rnumber_w b a a' _ _ h3 trivial⟩

end Go.Cdc

/- CODEC, 12: the reference's Value. -/
namespace Go.Cdc
set_option maxRecDepth 100000
set_option linter.unusedSimpArgs false
set_option linter.unusedVariables false
open Go Go.Am Go.Proofs Go.Seat

theorem subn (a u : Nat) : (((a + u : Nat) : Int) - (u : Int)).toNat = a := by omega

theorem rv_x (b : List UInt8) (a a1 : Nat) (bad : Bool) (dep : Nat) (c : UInt8) (hn : CallC P G 92 [.ptr 0 0] (rr b a false) (.ret (u8 c)) (rr b a1 bad)) (h1 : c.toNat ≠ 1) (h2 : c.toNat ≠ 2) (h3 : c.toNat ≠ 3) (h : True) : CallC P G 74 [AV.ptr 0 0, int (↑dep : Int)] (rr b a false) (AOut.ret (vmk 0 0 ByteArray.empty [])) (rr b a1 true) := by
  have _ := h
  exact CallC.out ((show CallC P G 74 [AV.ptr 0 0, int (↑dep : Int)] (rr b a false) (AOut.ret (AV.agg [int 0, int 0, str { data := #[] }, nilS])) [AObj.box [AV.sl 1 false (bys b), int (↑a1 : Int), Am.bool true]] from callC_of [kc [0] (@hn ), kf (show ((↑(UInt8.toNat c) : Int) == 1) = false from (decide_eq_false (by omega))), kf (show ((↑(UInt8.toNat c) : Int) == 2) = false from (decide_eq_false (by omega))), kf (show ((↑(UInt8.toNat c) : Int) == 3) = false from (decide_eq_false (by omega)))] (by kernel_rfl))) (Sub.aggs ⟨Sub.refl _, Sub.refl _, Sub.refl _, Sub.nil _, trivial⟩)


theorem rv_1 (b : List UInt8) (a a1 a2 u : Nat) (bad : Bool) (dep : Nat) (c : UInt8) (hn : CallC P G 92 [.ptr 0 0] (rr b a false) (.ret (u8 c)) (rr b a1 false)) (h1 : c.toNat = 1) (hu : CallC P G 93 [.ptr 0 0] (rr b a1 false) (.ret (u64 u)) (rr b a2 bad)) (v : Int) (h : (((Int.tmod (↑u : Int) 2 = (1 : Int)) → (IntKind.wrap IntKind.i64 (IntKind.wrap IntKind.i64 (0 - IntKind.wrap IntKind.i64 (IntKind.wrap IntKind.u64 (Int.tdiv (↑u : Int) 2))) - 1) : Int) = (v)) ∧ ((¬Int.tmod (↑u : Int) 2 = (1 : Int)) → (IntKind.wrap IntKind.i64 (IntKind.wrap IntKind.u64 (Int.tdiv (↑u : Int) 2)) : Int) = (v)))) : CallC P G 74 [AV.ptr 0 0, int (↑dep : Int)] (rr b a false) (AOut.ret (vmk 1 v ByteArray.empty [])) (rr b a2 bad) := by
  have hz0 := (@hn )
  have hz1 : ((↑(UInt8.toNat c) : Int) == 1) = true := (decide_eq_true (by omega))
  have hz2 := (@hu )
  have hz3 : (2 : Int) ≠ (0 : Int) := (by omega)
  by_cases c2 : (Int.tmod (↑u : Int) 2 = (1 : Int))
  · have h := h.1 c2
    have e1 := h
    exact CallC.out ((show CallC P G 74 [AV.ptr 0 0, int (↑dep : Int)] (rr b a false) (AOut.ret (AV.agg [int 1, int (IntKind.wrap IntKind.i64 (IntKind.wrap IntKind.i64 (0 - IntKind.wrap IntKind.i64 (IntKind.wrap IntKind.u64 (Int.tdiv (↑u : Int) 2))) - 1)), str { data := #[] }, nilS])) [AObj.box [AV.sl 1 false (bys b), int (↑a2 : Int), Am.bool bad]] from callC_of [kc [0] hz0, kt hz1, kc [0] hz2, kp hz3, kt (beq_iff_eq.2 c2), kp hz3] (by kernel_rfl))) (Sub.aggs ⟨Sub.refl _, (Sub.int_eq e1), Sub.refl _, Sub.nil _, trivial⟩)
  · have h := h.2 c2
    have e1 := h
    exact CallC.out ((show CallC P G 74 [AV.ptr 0 0, int (↑dep : Int)] (rr b a false) (AOut.ret (AV.agg [int 1, int (IntKind.wrap IntKind.i64 (IntKind.wrap IntKind.u64 (Int.tdiv (↑u : Int) 2))), str { data := #[] }, nilS])) [AObj.box [AV.sl 1 false (bys b), int (↑a2 : Int), Am.bool bad]] from callC_of [kc [0] hz0, kt hz1, kc [0] hz2, kp hz3, kf (beq_eq_false_iff_ne.2 c2), kp hz3] (by kernel_rfl))) (Sub.aggs ⟨Sub.refl _, (Sub.int_eq e1), Sub.refl _, Sub.nil _, trivial⟩)


theorem rv_2b (b : List UInt8) (a a1 a2 u : Nat) (dep : Nat) (c : UInt8) (hn : CallC P G 92 [.ptr 0 0] (rr b a false) (.ret (u8 c)) (rr b a1 false)) (h1 : c.toNat = 2) (hu : CallC P G 93 [.ptr 0 0] (rr b a1 false) (.ret (u64 u)) (rr b a2 true)) (h : True) : CallC P G 74 [AV.ptr 0 0, int (↑dep : Int)] (rr b a false) (AOut.ret (vmk 0 0 ByteArray.empty [])) (rr b a2 true) := by
  have _ := h
  exact CallC.out ((show CallC P G 74 [AV.ptr 0 0, int (↑dep : Int)] (rr b a false) (AOut.ret (AV.agg [int 0, int 0, str { data := #[] }, nilS])) [AObj.box [AV.sl 1 false (bys b), int (↑a2 : Int), Am.bool true]] from callC_of [kc [0] (@hn ), kf (show ((↑(UInt8.toNat c) : Int) == 1) = false from (decide_eq_false (by omega))), kt (show ((↑(UInt8.toNat c) : Int) == 2) = true from (decide_eq_true (by omega))), kc [0] (@hu ), kt (Eq.refl true), kt (Eq.refl true)] (by kernel_rfl))) (Sub.aggs ⟨Sub.refl _, Sub.refl _, Sub.refl _, Sub.nil _, trivial⟩)


theorem rv_2l (b : List UInt8) (a a1 a2 u : Nat) (dep : Nat) (c : UInt8) (hn : CallC P G 92 [.ptr 0 0] (rr b a false) (.ret (u8 c)) (rr b a1 false)) (h1 : c.toNat = 2) (hu : CallC P G 93 [.ptr 0 0] (rr b a1 false) (.ret (u64 u)) (rr b a2 false)) (hl : b.length ≤ 1000000000) (ha : a2 ≤ b.length) (hb : b.length - a2 < u) (h : True) : CallC P G 74 [AV.ptr 0 0, int (↑dep : Int)] (rr b a false) (AOut.ret (vmk 0 0 ByteArray.empty [])) (rr b a2 true) := by
  have _ := h
  exact CallC.out ((show CallC P G 74 [AV.ptr 0 0, int (↑dep : Int)] (rr b a false) (AOut.ret (AV.agg [int 0, int 0, str { data := #[] }, nilS])) [AObj.box [AV.sl 1 false (bys b), int (↑a2 : Int), Am.bool true]] from callC_of [kc [0] (@hn ), kf (show ((↑(UInt8.toNat c) : Int) == 1) = false from (decide_eq_false (by omega))), kt (show ((↑(UInt8.toNat c) : Int) == 2) = true from (decide_eq_true (by omega))), kc [0] (@hu ), kf (Eq.refl false), kv 43 (show Am.Sub (int (↑(List.length (bys b)) : Int)) (int (↑(List.length b) : Int)) from (Sub.of_eq (by simp only [Go.Cdc.bys_length]))), kv 48 (show Am.Sub (int (IntKind.wrap IntKind.i64 ((↑(List.length b) : Int) - (↑a2 : Int)))) (int ((↑(List.length b) : Int) - (↑a2 : Int))) from (Sub.of_wrap (by omega) (by omega) rfl)), kv 49 (show Am.Sub (AV.lit (Value.int IntKind.u64 (IntKind.wrap IntKind.u64 ((↑(List.length b) : Int) - (↑a2 : Int))))) (AV.lit (Value.int IntKind.u64 ((↑(List.length b) : Int) - (↑a2 : Int)))) from (Sub.of_wrapU (by omega) (by omega) rfl)), kt (show decide ((↑u : Int) > (↑(List.length b) : Int) - (↑a2 : Int)) = true from (decide_eq_true (by omega)))] (by kernel_rfl))) (Sub.aggs ⟨Sub.refl _, Sub.refl _, Sub.refl _, Sub.nil _, trivial⟩)


theorem rv_2 (b : List UInt8) (a a1 a2 u : Nat) (dep : Nat) (c : UInt8) (hn : CallC P G 92 [.ptr 0 0] (rr b a false) (.ret (u8 c)) (rr b a1 false)) (h1 : c.toNat = 2) (hu : CallC P G 93 [.ptr 0 0] (rr b a1 false) (.ret (u64 u)) (rr b a2 false)) (hl : b.length ≤ 1000000000) (ha : a2 ≤ b.length) (hle : u ≤ b.length - a2) (h : True) : CallC P G 74 [AV.ptr 0 0, int (↑dep : Int)] (rr b a false) (AOut.ret (vmk 2 0 { data := List.toArray (List.drop a2 (List.take (a2 + u) b)) } [])) (rr b (a2 + u) false) := by
  have hz8 : Am.Sub (int (IntKind.wrap IntKind.i64 (↑u : Int))) (int (↑u : Int)) := (Sub.of_wrap (by omega) (by omega) rfl)
  have _ := h
  exact CallC.out ((show CallC P G 74 [AV.ptr 0 0, int (↑dep : Int)] (rr b a false) (AOut.ret (AV.agg [int 2, int 0, str { data := List.toArray (List.drop a2 (List.take (a2 + u) b)) }, nilS])) [AObj.box [AV.sl 1 false (bys b), int (↑(a2 + u) : Int), Am.bool false]] from callC_of [kc [0] (@hn ), kf (show ((↑(UInt8.toNat c) : Int) == 1) = false from (decide_eq_false (by omega))), kt (show ((↑(UInt8.toNat c) : Int) == 2) = true from (decide_eq_true (by omega))), kc [0] (@hu ), kf (Eq.refl false), kv 43 (show Am.Sub (int (↑(List.length (bys b)) : Int)) (int (↑(List.length b) : Int)) from (Sub.of_eq (by simp only [Go.Cdc.bys_length]))), kv 48 (show Am.Sub (int (IntKind.wrap IntKind.i64 ((↑(List.length b) : Int) - (↑a2 : Int)))) (int ((↑(List.length b) : Int) - (↑a2 : Int))) from (Sub.of_wrap (by omega) (by omega) rfl)), kv 49 (show Am.Sub (AV.lit (Value.int IntKind.u64 (IntKind.wrap IntKind.u64 ((↑(List.length b) : Int) - (↑a2 : Int))))) (AV.lit (Value.int IntKind.u64 ((↑(List.length b) : Int) - (↑a2 : Int)))) from (Sub.of_wrapU (by omega) (by omega) rfl)), kf (show decide ((↑u : Int) > (↑(List.length b) : Int) - (↑a2 : Int)) = false from (decide_eq_false (by omega))), kv 62 hz8, kv 63 (show Am.Sub (int (IntKind.wrap IntKind.i64 ((↑a2 : Int) + (↑u : Int)))) (int (↑(a2 + u) : Int)) from (Sub.of_wrap (by omega) (by omega) (by omega))), kv 75 hz8, kv 76 (show Am.Sub (int (IntKind.wrap IntKind.i64 ((↑(a2 + u) : Int) - (↑u : Int)))) (int ((↑(a2 + u) : Int) - (↑u : Int))) from (Sub.of_wrap (by omega) (by omega) rfl)), kv 81 (show Am.Sub (AV.sl 1 false (List.drop (Int.toNat ((↑(a2 + u) : Int) - (↑u : Int))) (List.take (Int.toNat (↑(a2 + u) : Int)) (bys b)))) (AV.sl 1 false (bys (List.drop a2 (List.take (a2 + u) b)))) from (Sub.of_eq (by simp only [Go.Cdc.bys_drop, Go.Cdc.bys_take, Int.toNat_natCast, Go.Cdc.subn]))), ko (Orc.bytes { data := List.toArray (List.drop a2 (List.take (a2 + u) b)) }), kp (show (0 : Int) ≤ (↑(a2 + u) : Int) - (↑u : Int) ∧ (↑(a2 + u) : Int) - (↑u : Int) ≤ (↑(a2 + u) : Int) ∧ (↑(a2 + u) : Int) ≤ (↑(List.length (bys b)) : Int) from (by rw [Go.Cdc.bys_length]; omega)), kp (show bys (List.drop a2 (List.take (a2 + u) b)) = List.map (fun (c : UInt8) => [AV.lit (Value.int IntKind.u8 (↑(UInt8.toNat c) : Int))]) (Array.toList { toList := List.drop a2 (List.take (a2 + u) b) }) from (rfl))] (by kernel_rfl))) (Sub.aggs ⟨Sub.refl _, Sub.refl _, Sub.refl _, Sub.nil _, trivial⟩)


theorem rv_3b (b : List UInt8) (a a1 a2 u : Nat) (dep : Nat) (c : UInt8) (hn : CallC P G 92 [.ptr 0 0] (rr b a false) (.ret (u8 c)) (rr b a1 false)) (h1 : c.toNat = 3) (hu : CallC P G 93 [.ptr 0 0] (rr b a1 false) (.ret (u64 u)) (rr b a2 true)) (h : True) : CallC P G 74 [AV.ptr 0 0, int (↑dep : Int)] (rr b a false) (AOut.ret (vmk 0 0 ByteArray.empty [])) (rr b a2 true) := by
  have _ := h
  exact CallC.out ((show CallC P G 74 [AV.ptr 0 0, int (↑dep : Int)] (rr b a false) (AOut.ret (AV.agg [int 0, int 0, str { data := #[] }, nilS])) [AObj.box [AV.sl 1 false (bys b), int (↑a2 : Int), Am.bool true]] from callC_of [kc [0] (@hn ), kf (show ((↑(UInt8.toNat c) : Int) == 1) = false from (decide_eq_false (by omega))), kf (show ((↑(UInt8.toNat c) : Int) == 2) = false from (decide_eq_false (by omega))), kt (show ((↑(UInt8.toNat c) : Int) == 3) = true from (decide_eq_true (by omega))), kc [0] (@hu ), kt (Eq.refl true), kt (Eq.refl true), kt (Eq.refl true)] (by kernel_rfl))) (Sub.aggs ⟨Sub.refl _, Sub.refl _, Sub.refl _, Sub.nil _, trivial⟩)


theorem rv_3l (b : List UInt8) (a a1 a2 u : Nat) (dep : Nat) (c : UInt8) (hn : CallC P G 92 [.ptr 0 0] (rr b a false) (.ret (u8 c)) (rr b a1 false)) (h1 : c.toNat = 3) (hu : CallC P G 93 [.ptr 0 0] (rr b a1 false) (.ret (u64 u)) (rr b a2 false)) (hl : b.length ≤ 1000000000) (ha : a2 ≤ b.length) (hb : b.length - a2 < u ∨ dep = 16) (h : ((((↑u : Int) > (↑(List.length b) : Int) - (↑a2 : Int)) → True) ∧ ((¬(↑u : Int) > (↑(List.length b) : Int) - (↑a2 : Int)) → True))) : CallC P G 74 [AV.ptr 0 0, int (↑dep : Int)] (rr b a false) (AOut.ret (vmk 0 0 ByteArray.empty [])) (rr b a2 true) := by
  have hz0 := (@hn )
  have hz1 : ((↑(UInt8.toNat c) : Int) == 1) = false := (decide_eq_false (by omega))
  have hz2 : ((↑(UInt8.toNat c) : Int) == 2) = false := (decide_eq_false (by omega))
  have hz3 : ((↑(UInt8.toNat c) : Int) == 3) = true := (decide_eq_true (by omega))
  have hz4 := (@hu )
  have hz5 : Am.Sub (int (↑(List.length (bys b)) : Int)) (int (↑(List.length b) : Int)) := (Sub.of_eq (by simp only [Go.Cdc.bys_length]))
  have hz6 : Am.Sub (int (IntKind.wrap IntKind.i64 ((↑(List.length b) : Int) - (↑a2 : Int)))) (int ((↑(List.length b) : Int) - (↑a2 : Int))) := (Sub.of_wrap (by omega) (by omega) rfl)
  have hz7 : Am.Sub (AV.lit (Value.int IntKind.u64 (IntKind.wrap IntKind.u64 ((↑(List.length b) : Int) - (↑a2 : Int))))) (AV.lit (Value.int IntKind.u64 ((↑(List.length b) : Int) - (↑a2 : Int)))) := (Sub.of_wrapU (by omega) (by omega) rfl)
  by_cases c4 : ((↑u : Int) > (↑(List.length b) : Int) - (↑a2 : Int))
  · have h := h.1 c4
    have _ := h
    exact CallC.out ((show CallC P G 74 [AV.ptr 0 0, int (↑dep : Int)] (rr b a false) (AOut.ret (AV.agg [int 0, int 0, str { data := #[] }, nilS])) [AObj.box [AV.sl 1 false (bys b), int (↑a2 : Int), Am.bool true]] from callC_of [kc [0] hz0, kf hz1, kf hz2, kt hz3, kc [0] hz4, kf (Eq.refl false), kv 98 hz5, kv 103 hz6, kv 104 hz7, kt (decide_eq_true c4), kt (Eq.refl true)] (by kernel_rfl))) (Sub.aggs ⟨Sub.refl _, Sub.refl _, Sub.refl _, Sub.nil _, trivial⟩)
  · have h := h.2 c4
    have _ := h
    exact CallC.out ((show CallC P G 74 [AV.ptr 0 0, int (↑dep : Int)] (rr b a false) (AOut.ret (AV.agg [int 0, int 0, str { data := #[] }, nilS])) [AObj.box [AV.sl 1 false (bys b), int (↑a2 : Int), Am.bool true]] from callC_of [kc [0] hz0, kf hz1, kf hz2, kt hz3, kc [0] hz4, kf (Eq.refl false), kv 98 hz5, kv 103 hz6, kv 104 hz7, kf (decide_eq_false c4), kt (show ((↑dep : Int) == 16) = true from (decide_eq_true (by omega)))] (by kernel_rfl))) (Sub.aggs ⟨Sub.refl _, Sub.refl _, Sub.refl _, Sub.nil _, trivial⟩)


def rl0 (b : List UInt8) (dep a N : Nat) : St := { env := slots 142 [(0, .ptr 0 0), (1, int dep), (4, .ptr 1 0), (7, u64 N), (8, .ptr 2 0), (9, u64 0)], H := rr b a false ++ [.box [int 0, int 0, str { data := #[] }, nilS], .box [int 3, int 0, str { data := #[] }, nilS]] }
def rl1 (b : List UInt8) (dep a N i g : Nat) (bad : Bool) (vs : List CV) : St := { env := slots 142 [(0, .ptr 0 0), (1, int dep), (4, .ptr 1 0), (7, u64 N), (8, .ptr 2 0), (9, u64 i)], H := rr b a bad ++ [.box [int 0, int 0, str { data := #[] }, nilS], .box [int 3, int 0, str { data := #[] }, .own 3 g 0 vs.length], .arr g 4 false (encL vs)] }

theorem rl0_end (b : List UInt8) (dep a N : Nat) (hN : N = 0) (h : True) : RunL P G none 1 (loopAt P 74 0) (rl0 b dep a N) (AEx.exit 1) { env := slots 142 [(4, AV.ptr 1 0), (8, AV.ptr 2 0)], H := rr b a false ++ [AObj.box [int 0, int 0, str { data := #[] }, nilS], AObj.box [int 3, int 0, str { data := #[] }, nilS]] } := by
  have _ := h
  exact loop_exit [kf (show decide ((↑0 : Int) < (↑N : Int)) = false from (decide_eq_false (by omega))), kf (Eq.refl false)] (others 142 [4, 8]) 3 (by kernel_rfl)


theorem rl0_step (b : List UInt8) (dep a a' N : Nat) (bad : Bool) (hd : dep < 16) (hN : 0 < N) (hN2 : N ≤ 1000000000) (v : CV) (hv : CallC P G 74 [.ptr 0 0, int ((dep + 1 : Nat) : Int)] (rr b a false) (.ret (val v)) (rr b a' bad)) (ex : AEx) (s' : St) (h : RunL P G none 1 (loopAt P 74 0) { env := slots 142 [(0, AV.ptr 0 0), (1, int (↑dep : Int)), (4, AV.ptr 1 0), (7, AV.lit (Value.int IntKind.u64 (↑N : Int))), (8, AV.ptr 2 0), (9, AV.lit (Value.int IntKind.u64 1))], H := [AObj.box [AV.sl 1 false (bys b), int (↑a' : Int), Am.bool bad], AObj.box [int 0, int 0, str { data := #[] }, nilS], AObj.box [int 3, int 0, str { data := #[] }, AV.own 3 0 0 1], AObj.arr 0 4 false [[int (CV.k v), int (CV.n v), str (CV.s v), AV.sl 4 false (encL (CV.l v))]]] } ex s') : RunL P G none 1 (loopAt P 74 0) (rl0 b dep a N) ex s' := by
  exact loop_next [kt (show decide ((↑0 : Int) < (↑N : Int)) = true from (decide_eq_true (by omega))), kt (Eq.refl true), kv 132 (show Am.Sub (int (IntKind.wrap IntKind.i64 ((↑dep : Int) + 1))) (int (↑(dep + 1) : Int)) from (Sub.of_wrap (by omega) (by omega) (by omega))), kc [0] (@hv ), kp (show [[int (CV.k v), int (CV.n v), str (CV.s v), AV.sl 4 false (encL (CV.l v))]] ≠ [] from (by simp)), kp (show 56 ≤ 140737488355328 from (by omega))] (others 142 [0, 1, 4, 7, 8, 9]) 4 h (by kernel_rfl)


theorem rl1_end (b : List UInt8) (dep a N i g : Nat) (vs : List CV) (hN : N ≤ i) (h : True) : RunL P G none 1 (loopAt P 74 0) (rl1 b dep a N i g false vs) (AEx.exit 1) { env := slots 142 [(4, AV.ptr 1 0), (8, AV.ptr 2 0)], H := rr b a false ++ [AObj.box [int 0, int 0, str { data := #[] }, nilS], AObj.box [int 3, int 0, str { data := #[] }, AV.own 3 g 0 (List.length vs)], AObj.arr g 4 false (encL vs)] } := by
  have _ := h
  exact loop_exit [kf (show decide ((↑i : Int) < (↑N : Int)) = false from (decide_eq_false (by omega))), kf (Eq.refl false)] (others 142 [4, 8]) 4 (by kernel_rfl)


theorem rl1_bad (b : List UInt8) (dep a N i g : Nat) (vs : List CV) (h : ((((↑i : Int) < (↑N : Int)) → True) ∧ ((¬(↑i : Int) < (↑N : Int)) → True))) : RunL P G none 1 (loopAt P 74 0) (rl1 b dep a N i g true vs) (AEx.exit 1) { env := slots 142 [(4, AV.ptr 1 0), (8, AV.ptr 2 0)], H := rr b a true ++ [AObj.box [int 0, int 0, str { data := #[] }, nilS], AObj.box [int 3, int 0, str { data := #[] }, AV.own 3 g 0 (List.length vs)], AObj.arr g 4 false (encL vs)] } := by
  by_cases c1 : ((↑i : Int) < (↑N : Int))
  · have h := h.1 c1
    have _ := h
    exact loop_exit [kt (decide_eq_true c1), kf (Eq.refl false)] (others 142 [4, 8]) 4 (by kernel_rfl)
  · have h := h.2 c1
    have _ := h
    exact loop_exit [kf (decide_eq_false c1), kf (Eq.refl false)] (others 142 [4, 8]) 4 (by kernel_rfl)


theorem rl1_step (b : List UInt8) (dep a a' N i g : Nat) (bad : Bool) (vs : List CV) (hd : dep < 16) (hN : i < N) (hN2 : N ≤ 1000000000) (hvs : vs.length ≤ 1000000000) (v : CV) (hv : CallC P G 74 [.ptr 0 0, int ((dep + 1 : Nat) : Int)] (rr b a false) (.ret (val v)) (rr b a' bad)) (ex : AEx) (s' : St) (h : RunL P G none 1 (loopAt P 74 0) { env := slots 142 [(0, AV.ptr 0 0), (1, int (↑dep : Int)), (4, AV.ptr 1 0), (7, AV.lit (Value.int IntKind.u64 (↑N : Int))), (8, AV.ptr 2 0), (9, AV.lit (Value.int IntKind.u64 (↑(i + 1) : Int)))], H := [AObj.box [AV.sl 1 false (bys b), int (↑a' : Int), Am.bool bad], AObj.box [int 0, int 0, str { data := #[] }, nilS], AObj.box [int 3, int 0, str { data := #[] }, AV.own 3 (g + 1) 0 (List.length vs + 1)], AObj.arr (g + 1) 4 false (encL vs ++ [[int (CV.k v), int (CV.n v), str (CV.s v), AV.sl 4 false (encL (CV.l v))]])] } ex s') : RunL P G none 1 (loopAt P 74 0) (rl1 b dep a N i g false vs) ex s' := by
  exact loop_next [kt (show decide ((↑i : Int) < (↑N : Int)) = true from (decide_eq_true (by omega))), kt (Eq.refl true), kv 132 (show Am.Sub (int (IntKind.wrap IntKind.i64 ((↑dep : Int) + 1))) (int (↑(dep + 1) : Int)) from (Sub.of_wrap (by omega) (by omega) (by omega))), kc [0] (@hv ), kp (show g = g from (rfl)), kp (show List.length vs = List.length (encL vs) from ((Go.Cdc.encL_length _).symm)), kp (show (List.length vs + 1) * 56 ≤ 140737488355328 from (by omega)), kv 127 (show Am.Sub (AV.lit (Value.int IntKind.u64 (IntKind.wrap IntKind.u64 ((↑i : Int) + 1)))) (AV.lit (Value.int IntKind.u64 (↑(i + 1) : Int))) from (Sub.of_wrapU (by omega) (by omega) (by omega)))] (others 142 [0, 1, 4, 7, 8, 9]) 4 h (by kernel_rfl)


theorem rv_30 (b : List UInt8) (a a1 a2 u : Nat) (dep : Nat) (c : UInt8) (hn : CallC P G 92 [.ptr 0 0] (rr b a false) (.ret (u8 c)) (rr b a1 false)) (h1 : c.toNat = 3) (hu : CallC P G 93 [.ptr 0 0] (rr b a1 false) (.ret (u64 u)) (rr b a2 false)) (hl : b.length ≤ 1000000000) (ha : a2 ≤ b.length) (hd : dep < 16) (hle : u = 0) (h : True) : CallC P G 74 [AV.ptr 0 0, int (↑dep : Int)] (rr b a false) (AOut.ret (vmk 3 0 ByteArray.empty [])) (rr b a2 false) := by
  have _ := h
  exact CallC.out ((show CallC P G 74 [AV.ptr 0 0, int (↑dep : Int)] (rr b a false) (AOut.ret (AV.agg [int 3, int 0, str { data := #[] }, nilS])) [AObj.box [AV.sl 1 false (bys b), int (↑a2 : Int), Am.bool false]] from callC_of [kc [0] (@hn ), kf (show ((↑(UInt8.toNat c) : Int) == 1) = false from (decide_eq_false (by omega))), kf (show ((↑(UInt8.toNat c) : Int) == 2) = false from (decide_eq_false (by omega))), kt (show ((↑(UInt8.toNat c) : Int) == 3) = true from (decide_eq_true (by omega))), kc [0] (@hu ), kf (Eq.refl false), kv 98 (show Am.Sub (int (↑(List.length (bys b)) : Int)) (int (↑(List.length b) : Int)) from (Sub.of_eq (by simp only [Go.Cdc.bys_length]))), kv 103 (show Am.Sub (int (IntKind.wrap IntKind.i64 ((↑(List.length b) : Int) - (↑a2 : Int)))) (int ((↑(List.length b) : Int) - (↑a2 : Int))) from (Sub.of_wrap (by omega) (by omega) rfl)), kv 104 (show Am.Sub (AV.lit (Value.int IntKind.u64 (IntKind.wrap IntKind.u64 ((↑(List.length b) : Int) - (↑a2 : Int))))) (AV.lit (Value.int IntKind.u64 ((↑(List.length b) : Int) - (↑a2 : Int)))) from (Sub.of_wrapU (by omega) (by omega) rfl)), kf (show decide ((↑u : Int) > (↑(List.length b) : Int) - (↑a2 : Int)) = false from (decide_eq_false (by omega))), kf (show ((↑dep : Int) == 16) = false from (decide_eq_false (by omega))), kl [2, 3, 5, 6, 10, 11, 12, 13, 14, 15, 16, 17, 18, 19, 20, 21, 22, 23, 24, 25, 26, 27, 28, 29, 30, 31, 32, 33, 34, 35, 36, 37, 38, 39, 40, 41, 42, 43, 44, 45, 46, 47, 48, 49, 50, 51, 52, 53, 54, 55, 56, 57, 58, 59, 60, 61, 62, 63, 64, 65, 66, 67, 68, 69, 70, 71, 72, 73, 74, 75, 76, 77, 78, 79, 80, 81, 82, 83, 84, 85, 86, 87, 88, 89, 90, 91, 92, 93, 94, 95, 96, 97, 98, 99, 100, 101, 102, 103, 104, 105, 106, 107, 108, 109, 110, 111, 112, 113, 114, 115, 116, 117, 118, 119, 120, 121, 122, 123, 124, 125, 126, 127, 128, 129, 130, 131, 132, 133, 134, 135, 136, 137, 138, 139, 140, 141] 3 (@Go.Cdc.rl0_end (b) (dep) (a2) (u) (by omega) (trivial))] (by kernel_rfl))) (Sub.aggs ⟨Sub.refl _, Sub.refl _, Sub.refl _, Sub.nil _, trivial⟩)


theorem rv_31 (b : List UInt8) (a a1 a2 u : Nat) (dep : Nat) (c : UInt8) (hn : CallC P G 92 [.ptr 0 0] (rr b a false) (.ret (u8 c)) (rr b a1 false)) (h1 : c.toNat = 3) (hu : CallC P G 93 [.ptr 0 0] (rr b a1 false) (.ret (u64 u)) (rr b a2 false)) (hl : b.length ≤ 1000000000) (ha : a2 ≤ b.length) (hd : dep < 16) (hle : u ≤ b.length - a2) (vs : List CV) (a3 g : Nat) (bad : Bool) (hL : RunL P G none 1 (loopAt P 74 0) (rl0 b dep a2 u) (.exit 1) { env := slots 142 [(4, .ptr 1 0), (8, .ptr 2 0)], H := rr b a3 bad ++ [.box [int 0, int 0, str { data := #[] }, nilS], .box [int 3, int 0, str { data := #[] }, .own 3 g 0 vs.length], .arr g 4 false (encL vs)] }) (h : True) : CallC P G 74 [AV.ptr 0 0, int (↑dep : Int)] (rr b a false) (AOut.ret (vmk 3 0 ByteArray.empty vs)) (rr b a3 bad) := by
  have _ := h
  exact callC_of [kc [0] (@hn ), kf (show ((↑(UInt8.toNat c) : Int) == 1) = false from (decide_eq_false (by omega))), kf (show ((↑(UInt8.toNat c) : Int) == 2) = false from (decide_eq_false (by omega))), kt (show ((↑(UInt8.toNat c) : Int) == 3) = true from (decide_eq_true (by omega))), kc [0] (@hu ), kf (Eq.refl false), kv 98 (show Am.Sub (int (↑(List.length (bys b)) : Int)) (int (↑(List.length b) : Int)) from (Sub.of_eq (by simp only [Go.Cdc.bys_length]))), kv 103 (show Am.Sub (int (IntKind.wrap IntKind.i64 ((↑(List.length b) : Int) - (↑a2 : Int)))) (int ((↑(List.length b) : Int) - (↑a2 : Int))) from (Sub.of_wrap (by omega) (by omega) rfl)), kv 104 (show Am.Sub (AV.lit (Value.int IntKind.u64 (IntKind.wrap IntKind.u64 ((↑(List.length b) : Int) - (↑a2 : Int))))) (AV.lit (Value.int IntKind.u64 ((↑(List.length b) : Int) - (↑a2 : Int)))) from (Sub.of_wrapU (by omega) (by omega) rfl)), kf (show decide ((↑u : Int) > (↑(List.length b) : Int) - (↑a2 : Int)) = false from (decide_eq_false (by omega))), kf (show ((↑dep : Int) == 16) = false from (decide_eq_false (by omega))), kl [2, 3, 5, 6, 10, 11, 12, 13, 14, 15, 16, 17, 18, 19, 20, 21, 22, 23, 24, 25, 26, 27, 28, 29, 30, 31, 32, 33, 34, 35, 36, 37, 38, 39, 40, 41, 42, 43, 44, 45, 46, 47, 48, 49, 50, 51, 52, 53, 54, 55, 56, 57, 58, 59, 60, 61, 62, 63, 64, 65, 66, 67, 68, 69, 70, 71, 72, 73, 74, 75, 76, 77, 78, 79, 80, 81, 82, 83, 84, 85, 86, 87, 88, 89, 90, 91, 92, 93, 94, 95, 96, 97, 98, 99, 100, 101, 102, 103, 104, 105, 106, 107, 108, 109, 110, 111, 112, 113, 114, 115, 116, 117, 118, 119, 120, 121, 122, 123, 124, 125, 126, 127, 128, 129, 130, 131, 132, 133, 134, 135, 136, 137, 138, 139, 140, 141] 3 (@hL ), ko (Orc.fz (some 137) (encL vs)), kp (show g = g from (rfl)), kp (show List.take (List.length vs) (List.drop 0 (encL vs)) = encL vs from (Go.Cdc.encL_all _)), kp (show List.length (encL vs) = List.length vs from (Go.Cdc.encL_length _)), kp (show ∀ (c : List AV), c ∈ encL vs → List.all c AV.pureB = true from (Go.Cdc.encL_pure _))] (by kernel_rfl)


theorem rdec_w (b : List UInt8) (a' : Nat) (v : CV) (bad : Bool) (e : Int) (hv : CallC P G 74 [.ptr 0 0, int 0] (rr b 0 false) (.ret (val v)) (rr b a' bad)) (hc : CallC P G 75 [val v] [] (.ret (int e)) []) (x : List UInt8) (hw : CallC P G 76 [val v] [] (.ret (byt x)) []) (r : AV) (h : ((((bad) = true) → Sub (AV.tup [AV.agg [int 0, int 0, str { data := #[] }, nilS], int 10]) (r)) ∧ (((bad) = false) → ((((↑a' : Int) = (↑(List.length b) : Int)) → (((e = (0 : Int)) → ((((ByteArray.toList { data := List.toArray x } == ByteArray.toList { data := List.toArray b }) = true) → Sub (AV.tup [AV.agg [int (CV.k v), int (CV.n v), str (CV.s v), AV.sl 4 false (encL (CV.l v))], int 0]) (r)) ∧ (((ByteArray.toList { data := List.toArray x } == ByteArray.toList { data := List.toArray b }) = false) → Sub (AV.tup [AV.agg [int 0, int 0, str { data := #[] }, nilS], int 10]) (r)))) ∧ ((¬e = (0 : Int)) → Sub (AV.tup [AV.agg [int 0, int 0, str { data := #[] }, nilS], int 10]) (r)))) ∧ ((¬(↑a' : Int) = (↑(List.length b) : Int)) → Sub (AV.tup [AV.agg [int 0, int 0, str { data := #[] }, nilS], int 10]) (r)))))) : CallC P G 54 [byt b] [] (AOut.ret r) [] := by
  have hz0 := (@hv )
  have hz3 := (@hc )
  have hz5 := (@hw )
  have hz6 : bys x = List.map (fun (c : UInt8) => [AV.lit (Value.int IntKind.u8 (↑(UInt8.toNat c) : Int))]) (Array.toList { toList := x }) := (rfl)
  have hz7 : bys b = List.map (fun (c : UInt8) => [AV.lit (Value.int IntKind.u8 (↑(UInt8.toNat c) : Int))]) (Array.toList { toList := b }) := (rfl)
  rcases Bool.eq_false_or_eq_true ((bad)) with c1 | c1
  · have h := h.1 c1
    have e1 := h
    exact CallC.out ((show CallC P G 54 [byt b] [] (AOut.ret (AV.tup [AV.agg [int 0, int 0, str { data := #[] }, nilS], int 10])) [] from callC_of [kc [1] hz0, kt c1, kt (Eq.refl true), kt (Eq.refl true), kt (Eq.refl true)] (by kernel_rfl))) e1
  · have h := h.2 c1
    have hz1 : Am.Sub (int (↑(List.length (bys b)) : Int)) (int (↑(List.length b) : Int)) := (Sub.of_eq (by simp only [Go.Cdc.bys_length]))
    by_cases c2 : ((↑a' : Int) = (↑(List.length b) : Int))
    · have h := h.1 c2
      have hz2 : ((↑a' : Int) != (↑(List.length b) : Int)) = false := (congrArg Bool.not (beq_iff_eq.2 c2))
      by_cases c3 : (e = (0 : Int))
      · have h := h.1 c3
        have hz4 : (e != 0) = false := (congrArg Bool.not (beq_iff_eq.2 c3))
        rcases Bool.eq_false_or_eq_true ((ByteArray.toList { data := List.toArray x } == ByteArray.toList { data := List.toArray b })) with c4 | c4
        · have h := h.1 c4
          have e1 := h
          exact CallC.out ((show CallC P G 54 [byt b] [] (AOut.ret (AV.tup [AV.agg [int (CV.k v), int (CV.n v), str (CV.s v), AV.sl 4 false (encL (CV.l v))], int 0])) [] from callC_of [kc [1] hz0, kf c1, kv 21 hz1, kf hz2, kc [] hz3, kf hz4, kc [] hz5, ko (Orc.bytes { data := List.toArray x }), ko (Orc.bytes { data := List.toArray b }), kp hz6, kp hz7, kf (show (!ByteArray.toList { data := List.toArray x } == ByteArray.toList { data := List.toArray b }) = false from (congrArg Bool.not (c4)))] (by kernel_rfl))) e1
        · have h := h.2 c4
          have e1 := h
          exact CallC.out ((show CallC P G 54 [byt b] [] (AOut.ret (AV.tup [AV.agg [int 0, int 0, str { data := #[] }, nilS], int 10])) [] from callC_of [kc [1] hz0, kf c1, kv 21 hz1, kf hz2, kc [] hz3, kf hz4, kc [] hz5, ko (Orc.bytes { data := List.toArray x }), ko (Orc.bytes { data := List.toArray b }), kp hz6, kp hz7, kt (show (!ByteArray.toList { data := List.toArray x } == ByteArray.toList { data := List.toArray b }) = true from (congrArg Bool.not (c4)))] (by kernel_rfl))) e1
      · have h := h.2 c3
        have e1 := h
        exact CallC.out ((show CallC P G 54 [byt b] [] (AOut.ret (AV.tup [AV.agg [int 0, int 0, str { data := #[] }, nilS], int 10])) [] from callC_of [kc [1] hz0, kf c1, kv 21 hz1, kf hz2, kc [] hz3, kt (show (e != 0) = true from (congrArg Bool.not (beq_eq_false_iff_ne.2 c3))), kt (Eq.refl true)] (by kernel_rfl))) e1
    · have h := h.2 c2
      have e1 := h
      exact CallC.out ((show CallC P G 54 [byt b] [] (AOut.ret (AV.tup [AV.agg [int 0, int 0, str { data := #[] }, nilS], int 10])) [] from callC_of [kc [1] hz0, kf c1, kv 21 hz1, kt (show ((↑a' : Int) != (↑(List.length b) : Int)) = true from (congrArg Bool.not (beq_eq_false_iff_ne.2 c2))), kt (Eq.refl true), kt (Eq.refl true)] (by kernel_rfl))) e1


end Go.Cdc

/- CODEC, 2: the program's reader. -/
namespace Go.Cdc
set_option maxRecDepth 100000
set_option linter.unusedSimpArgs false
set_option linter.unusedVariables false
open Go Go.Am Go.Proofs Go.Seat

theorem numF_lt : ∀ (l : List UInt8) (u i : Nat), u < 2 ^ (7 * i) → i ≤ 9 → (numF l u i).2.1 < 18446744073709551616 ∧ (numF l u i).2.2.length ≤ l.length
  | [], u, i, hu, hi => ⟨by
      have : 2 ^ (7 * i) ≤ 2 ^ 63 := Nat.pow_le_pow_right (by decide) (by omega)
      have : (2 : Nat) ^ 63 < 18446744073709551616 := by decide
      show u < _; omega, Nat.le_refl _⟩
  | c :: r, u, i, hu, hi => by
    have h0 : u < 18446744073709551616 := by
      have : 2 ^ (7 * i) ≤ 2 ^ 63 := Nat.pow_le_pow_right (by decide) (by omega)
      have : (2 : Nat) ^ 63 < 18446744073709551616 := by decide
      omega
    simp only [numF]
    split
    · exact ⟨h0, by simp⟩
    · rename_i hn
      have hf := digit_fits (c := c.toNat) hu hi (by omega)
      split
      · exact ⟨hf.2, by simp⟩
      · rename_i hc
        have := numF_lt r (u + c.toNat % 128 * 2 ^ (7 * i)) (i + 1) hf.1 (by omega)
        exact ⟨this.1, by simp; omega⟩
theorem numU_lt (l : List UInt8) : numU l < 18446744073709551616 := (numF_lt l 0 0 (by simp) (by omega)).1
theorem numR_le (l : List UInt8) : (numR l).length ≤ l.length := (numF_lt l 0 0 (by simp) (by omega)).2

def lenOk (l : List UInt8) : Bool := numOk l && decide (numU l ≤ (numR l).length)

theorem length_w (l : List UInt8) (hl : l.length ≤ 1000000000) (hr : (numR l).length ≤ 1000000000) (hu : numU l < 18446744073709551616) (out : AOut) (h : ((((numOk l) = true) → ((((↑(numU l) : Int) ≤ (↑(List.length (numR l) % 18446744073709551616) : Int)) → AOut.ret (int (↑(numU l) : Int)) = out) ∧ ((¬(↑(numU l) : Int) ≤ (↑(List.length (numR l) % 18446744073709551616) : Int)) → AOut.pan (AV.ifc 33 (int 10)) = out))) ∧ (((numOk l) = false) → AOut.pan (AV.ifc 33 (int 10)) = out))) : CallC P G 80 [AV.ptr 0 0] (rdr l) out (rdr (numR l)) := by
  rcases Bool.eq_false_or_eq_true ((numOk l)) with c1 | c1
  · have h := h.1 c1
    have hz0 : CallC P G 79 [AV.ptr 0 0] [AObj.box [AV.sl 1 false (bys l)]] (AOut.ret (AV.lit (Value.int IntKind.u64 (↑(numU l) : Int)))) [AObj.box [AV.sl 1 false (bys (numR l))]] := (by have h0 := (@Go.Cdc.number_c (l) (by omega)); simp only [if_pos (show numOk l = true from c1)] at h0; exact h0)
    have hz1 : Am.Sub (int (↑(List.length (bys (numR l))) : Int)) (int (↑(List.length (numR l)) : Int)) := (Sub.of_eq (by simp only [Go.Cdc.bys_length]))
    by_cases c2 : ((↑(numU l) : Int) ≤ (↑(List.length (numR l) % 18446744073709551616) : Int))
    · have h := h.1 c2
      have e1 := h
      exact e1 ▸ ((show CallC P G 80 [AV.ptr 0 0] (rdr l) (AOut.ret (int (↑(numU l) : Int))) [AObj.box [AV.sl 1 false (bys (numR l))]] from callC_of [kc [0] hz0, kv 12 hz1, kc [0] (show CallC P G 58 [AV.ptr 0 0, Am.bool (decide ((↑(numU l) : Int) ≤ IntKind.wrap IntKind.u64 (↑(List.length (numR l)) : Int)))] [AObj.box [AV.sl 1 false (bys (numR l))]] (AOut.ret (AV.tup [])) [AObj.box [AV.sl 1 false (bys (numR l))]] from (by have h0 := (@Go.Cdc.want_c (AObj.box [AV.sl 1 false (bys (numR l))]) (decide ((↑(numU l) : Int) ≤ (↑(List.length (numR l) % 18446744073709551616) : Int)))); simp only [if_pos (show decide ((↑(numU l) : Int) ≤ (↑(List.length (numR l) % 18446744073709551616) : Int)) = true from decide_eq_true c2)] at h0; exact h0)), kv 17 (show Am.Sub (int (IntKind.wrap IntKind.i64 (↑(numU l) : Int))) (int (↑(numU l) : Int)) from (Sub.of_wrap (by omega) (by omega) rfl))] (by kernel_rfl)))
    · have h := h.2 c2
      have e1 := h
      exact e1 ▸ ((show CallC P G 80 [AV.ptr 0 0] (rdr l) (AOut.pan (AV.ifc 33 (int 10))) [AObj.box [AV.sl 1 false (bys (numR l))]] from callC_of [kc [0] hz0, kv 12 hz1, kc [0] (show CallC P G 58 [AV.ptr 0 0, Am.bool (decide ((↑(numU l) : Int) ≤ IntKind.wrap IntKind.u64 (↑(List.length (numR l)) : Int)))] [AObj.box [AV.sl 1 false (bys (numR l))]] (AOut.pan (AV.ifc 33 (int 10))) [AObj.box [AV.sl 1 false (bys (numR l))]] from (by have h0 := (@Go.Cdc.want_c (AObj.box [AV.sl 1 false (bys (numR l))]) (decide ((↑(numU l) : Int) ≤ (↑(List.length (numR l) % 18446744073709551616) : Int)))); simp only [if_neg (show ¬ (decide ((↑(numU l) : Int) ≤ (↑(List.length (numR l) % 18446744073709551616) : Int)) = true) from Bool.eq_false_iff.1 (decide_eq_false c2))] at h0; exact h0))] (by kernel_rfl)))
  · have h := h.2 c1
    have e1 := h
    exact e1 ▸ ((show CallC P G 80 [AV.ptr 0 0] (rdr l) (AOut.pan (AV.ifc 33 (int 10))) [AObj.box [AV.sl 1 false (bys (numR l))]] from callC_of [kc [0] (show CallC P G 79 [AV.ptr 0 0] [AObj.box [AV.sl 1 false (bys l)]] (AOut.pan (AV.ifc 33 (int 10))) [AObj.box [AV.sl 1 false (bys (numR l))]] from (by have h0 := (@Go.Cdc.number_c (l) (by omega)); simp only [if_neg (show ¬ (numOk l = true) from Bool.eq_false_iff.1 (c1))] at h0; exact h0))] (by kernel_rfl)))


theorem length_c (l : List UInt8) (hl : l.length ≤ 1000000000) : CallC P G 80 [.ptr 0 0] (rdr l) (if lenOk l = true then .ret (int (numU l)) else .pan badErr) (rdr (numR l)) := by
  have h1 := numR_le l
  refine length_w l hl (by omega) (numU_lt l) _ ⟨fun h => ⟨fun h2 => ?_, fun h2 => ?_⟩, fun h => ?_⟩
  · rw [if_pos (by simp only [lenOk, h, Bool.true_and, decide_eq_true_eq]; omega)]
  · rw [if_neg (by simp only [lenOk, h, Bool.true_and, decide_eq_true_eq]; omega)]; rfl
  · rw [if_neg (by simp [lenOk, h])]; rfl

theorem signed_w (u : Nat) (hu : u < 18446744073709551616) (v : Int) (h : (IntKind.wrap IntKind.i64 (↑(BitVec.toNat (BitVec.ofInt (IntKind.bits IntKind.i64) (IntKind.wrap IntKind.i64 (Int.fdiv (↑u : Int) (2 ^ min (Int.toNat 1) (IntKind.bits IntKind.u64)))) ^^^ BitVec.ofInt (IntKind.bits IntKind.i64) (IntKind.wrap IntKind.i64 (0 - IntKind.wrap IntKind.i64 (IntKind.wrap IntKind.u64 (↑(BitVec.toNat (BitVec.ofInt (IntKind.bits IntKind.u64) (↑u : Int) &&& BitVec.ofInt (IntKind.bits IntKind.u64) 1)) : Int)))))) : Int) : Int) = (v)) : CallC P G 78 [u64 u] [] (AOut.ret (int v)) [] := by
  have e1 := h
  exact callC_out (Sub.int_eq e1) [kp (show (0 : Int) ≤ (1 : Int) from (by omega))] (by kernel_rfl)


def sgn (u : Nat) : Int := if u % 2 = 0 then ((u / 2 : Nat) : Int) else -((u / 2 : Nat) : Int) - 1
theorem wrap_i64_nat (n : Nat) (h : n < 18446744073709551616) : IntKind.wrap .i64 (n : Int) = if n < 9223372036854775808 then (n : Int) else (n : Int) - 18446744073709551616 := by
  show (let m := (n : Int) % (2 ^ 64 : Int); if (IntKind.i64.signed && m ≥ (2 ^ (64 - 1) : Int)) = true then m - (2 ^ 64 : Int) else m) = _
  have e : (n : Int) % (2 ^ 64 : Int) = n := by
    rw [show (2 : Int) ^ 64 = 18446744073709551616 from by decide]; omega
  simp only [e, IntKind.signed, Bool.true_and, decide_eq_true_eq]
  rw [show (2 : Int) ^ (64 - 1) = 9223372036854775808 from by decide, show (2 : Int) ^ 64 = 18446744073709551616 from by decide]
  split <;> split <;> omega
theorem sgn_eq {u : Nat} (hu : u < 18446744073709551616) : IntKind.wrap IntKind.i64 (↑(BitVec.toNat (BitVec.ofInt (IntKind.bits IntKind.i64) (IntKind.wrap IntKind.i64 (Int.fdiv (↑u : Int) (2 ^ min (Int.toNat 1) (IntKind.bits IntKind.u64)))) ^^^ BitVec.ofInt (IntKind.bits IntKind.i64) (IntKind.wrap IntKind.i64 (0 - IntKind.wrap IntKind.i64 (IntKind.wrap IntKind.u64 (↑(BitVec.toNat (BitVec.ofInt (IntKind.bits IntKind.u64) (↑u : Int) &&& BitVec.ofInt (IntKind.bits IntKind.u64) 1)) : Int)))))) : Int) = sgn u := by
  have e1 : min (Int.toNat 1) (IntKind.bits IntKind.u64) = 1 := by decide
  have e2 : Int.fdiv (u : Int) (2 ^ 1) = ((u / 2 : Nat) : Int) := by
    show Int.fdiv (u : Int) ((2 : Nat) : Int) = _
    rw [Int.fdiv_eq_ediv_of_nonneg _ (by decide)]; omega
  have hb : u / 2 < 9223372036854775808 := by omega
  have e3 : (BitVec.ofInt (IntKind.bits IntKind.u64) (u : Int) &&& BitVec.ofInt (IntKind.bits IntKind.u64) 1).toNat = u % 2 := by
    have : (1 : Int) = ((1 : Nat) : Int) := rfl
    rw [BitVec.toNat_and, this, ofInt_nat, ofInt_nat]
    show (u % 2 ^ 64) &&& (1 % 2 ^ 64) = _
    rw [Nat.mod_eq_of_lt (show u < 2 ^ 64 by omega), Nat.mod_eq_of_lt (show 1 < 2 ^ 64 by decide)]
    exact Nat.and_two_pow_sub_one_eq_mod u 1
  rw [e1, e2, e3, wrap_i64_nat (u / 2) (by omega), if_pos hb, wrap64 (show u % 2 < 18446744073709551616 by omega), wrap_i64_nat (u % 2) (by omega), if_pos (by omega)]
  have e4 : ∀ n : Nat, (BitVec.ofInt (IntKind.bits IntKind.i64) (n : Int)).toNat = n % 2 ^ 64 := fun n => ofInt_nat _ n
  unfold sgn
  rcases Nat.mod_two_eq_zero_or_one u with h | h
  · rw [h, if_pos rfl]
    have : IntKind.wrap IntKind.i64 (0 - ((0 : Nat) : Int)) = ((0 : Nat) : Int) := by decide
    rw [this, BitVec.toNat_xor, e4, e4, Nat.mod_eq_of_lt (show u / 2 < 2 ^ 64 by omega)]
    show IntKind.wrap IntKind.i64 (((u / 2) ^^^ 0 : Nat) : Int) = _
    rw [Nat.xor_zero, wrap_i64_nat _ (by omega), if_pos hb]
  · rw [h, if_neg (by decide)]
    have : IntKind.wrap IntKind.i64 (0 - ((1 : Nat) : Int)) = -1 := by decide
    rw [this]
    have h5 : BitVec.ofInt 64 (-1) = BitVec.allOnes 64 := by decide
    show IntKind.wrap IntKind.i64 ((BitVec.ofInt 64 ((u / 2 : Nat) : Int) ^^^ BitVec.ofInt 64 (-1)).toNat : Int) = _
    rw [h5, BitVec.xor_allOnes, BitVec.toNat_not, ofInt_nat, Nat.mod_eq_of_lt (show u / 2 < 2 ^ 64 by omega)]
    have h7 : (2 : Nat) ^ 64 = 18446744073709551616 := by decide
    rw [h7, wrap_i64_nat _ (by omega), if_neg (by omega)]
    omega
theorem signed_c (u : Nat) (hu : u < 18446744073709551616) : CallC P G 78 [u64 u] [] (.ret (int (sgn u))) [] := signed_w u hu _ (sgn_eq hu)

/-! A value -/
theorem val_nil (dep : Nat) (h : True) : CallC P G 57 [AV.ptr 0 0, int (↑dep : Int)] (rdr []) (AOut.pan badErr) [AObj.gone] := by
  have _ := h
  exact CallC.heapSub ((show CallC P G 57 [AV.ptr 0 0, int (↑dep : Int)] (rdr []) (AOut.pan (AV.ifc 33 (int 10))) [AObj.box [AV.sl 1 false []]] from callC_of [kc [0] (@Go.Cdc.one_nil )] (by kernel_rfl))) (by exact ⟨.inr trivial, trivial⟩)


theorem val_bad (dep : Nat) (c : UInt8) (r : List UInt8) (hl : r.length ≤ 999999999) (hc : c.toNat < 256) (h1 : c.toNat ≠ 1) (h2 : c.toNat ≠ 2) (h3 : c.toNat ≠ 3) (h : True) : CallC P G 57 [AV.ptr 0 0, int (↑dep : Int)] (rdrC c r) (AOut.pan badErr) [AObj.gone] := by
  have _ := h
  exact CallC.heapSub ((show CallC P G 57 [AV.ptr 0 0, int (↑dep : Int)] (rdrC c r) (AOut.pan (AV.ifc 33 (int 10))) [AObj.box [AV.sl 1 false (bys r)]] from callC_of [kc [0] (@Go.Cdc.one_any (AV.lit (Value.int IntKind.u8 (↑(UInt8.toNat c) : Int))) (r) (by omega)), ko (Orc.elem [AV.lit (Value.int IntKind.u8 (↑(UInt8.toNat c) : Int))]), kp (show (0 : Int) ≤ (0 : Int) ∧ [[AV.lit (Value.int IntKind.u8 (↑(UInt8.toNat c) : Int))]][Int.toNat 0]? = some [AV.lit (Value.int IntKind.u8 (↑(UInt8.toNat c) : Int))] from (⟨by decide, rfl⟩)), kv 9 (show Am.Sub (int (IntKind.wrap IntKind.i64 (↑(UInt8.toNat c) : Int))) (int (↑(UInt8.toNat c) : Int)) from (Sub.of_wrap (by omega) (by omega) rfl)), kf (show ((↑(UInt8.toNat c) : Int) == 1) = false from (decide_eq_false (by omega))), kf (show ((↑(UInt8.toNat c) : Int) == 2) = false from (decide_eq_false (by omega))), kf (show ((↑(UInt8.toNat c) : Int) == 3) = false from (decide_eq_false (by omega))), kc [0] (show CallC P G 58 [AV.ptr 0 0, Am.bool false] [AObj.box [AV.sl 1 false (bys r)]] (AOut.pan (AV.ifc 33 (int 10))) [AObj.box [AV.sl 1 false (bys r)]] from (by have h0 := (@Go.Cdc.want_c (AObj.box [AV.sl 1 false (bys r)]) (false)); simp only [if_neg (show ¬ (false = true) from Bool.eq_false_iff.1 (rfl))] at h0; exact h0))] (by kernel_rfl))) (by exact ⟨.inr trivial, trivial⟩)


def mkI (n : Int) : CV := .mk 1 n .empty []
def mkT (s : ByteArray) : CV := .mk 2 0 s []
def mkL (l : List CV) : CV := .mk 3 0 .empty l

theorem val_int (dep : Nat) (r : List UInt8) (hl : r.length ≤ 999999999) (hu : numU r < 18446744073709551616) (hok : numOk r = true) (h : True) : CallC P G 57 [AV.ptr 0 0, int (↑dep : Int)] (rdrC 1 r) (AOut.ret (val (mkI (sgn (numU r))))) (rdr (numR r)) := by
  have _ := h
  exact CallC.out ((show CallC P G 57 [AV.ptr 0 0, int (↑dep : Int)] (rdrC 1 r) (AOut.ret (AV.agg [int 1, int (sgn (numU r)), str { data := #[] }, nilS])) [AObj.box [AV.sl 1 false (bys (numR r))]] from callC_of [kc [0] (@Go.Cdc.one_any (AV.lit (Value.int IntKind.u8 1)) (r) (by omega)), ko (Orc.elem [AV.lit (Value.int IntKind.u8 1)]), kp (show (0 : Int) ≤ (0 : Int) ∧ [[AV.lit (Value.int IntKind.u8 1)]][Int.toNat 0]? = some [AV.lit (Value.int IntKind.u8 1)] from (⟨by decide, rfl⟩)), kt (Eq.refl true), kc [0] (show CallC P G 79 [AV.ptr 0 0] [AObj.box [AV.sl 1 false (bys r)]] (AOut.ret (AV.lit (Value.int IntKind.u64 (↑(numU r) : Int)))) [AObj.box [AV.sl 1 false (bys (numR r))]] from (by have h0 := (@Go.Cdc.number_c (r) (by omega)); simp only [if_pos (show numOk r = true from hok)] at h0; exact h0)), kc [] (@Go.Cdc.signed_c (numU r) (by omega))] (by kernel_rfl))) (Sub.aggs ⟨Sub.refl _, Sub.refl _, Sub.refl _, Sub.nil _, trivial⟩)


theorem val_int_x (dep : Nat) (r : List UInt8) (hl : r.length ≤ 999999999) (hok : numOk r = false) (h : True) : CallC P G 57 [AV.ptr 0 0, int (↑dep : Int)] (rdrC 1 r) (AOut.pan badErr) [AObj.gone] := by
  have _ := h
  exact CallC.heapSub ((show CallC P G 57 [AV.ptr 0 0, int (↑dep : Int)] (rdrC 1 r) (AOut.pan (AV.ifc 33 (int 10))) [AObj.box [AV.sl 1 false (bys (numR r))]] from callC_of [kc [0] (@Go.Cdc.one_any (AV.lit (Value.int IntKind.u8 1)) (r) (by omega)), ko (Orc.elem [AV.lit (Value.int IntKind.u8 1)]), kp (show (0 : Int) ≤ (0 : Int) ∧ [[AV.lit (Value.int IntKind.u8 1)]][Int.toNat 0]? = some [AV.lit (Value.int IntKind.u8 1)] from (⟨by decide, rfl⟩)), kt (Eq.refl true), kc [0] (show CallC P G 79 [AV.ptr 0 0] [AObj.box [AV.sl 1 false (bys r)]] (AOut.pan (AV.ifc 33 (int 10))) [AObj.box [AV.sl 1 false (bys (numR r))]] from (by have h0 := (@Go.Cdc.number_c (r) (by omega)); simp only [if_neg (show ¬ (numOk r = true) from Bool.eq_false_iff.1 (hok))] at h0; exact h0))] (by kernel_rfl))) (by exact ⟨.inr trivial, trivial⟩)


theorem val_txt (dep : Nat) (r : List UInt8) (hl : r.length ≤ 999999999) (hu : numU r < 18446744073709551616) (hr : (numR r).length ≤ 999999999) (hok : lenOk r = true) (hle : numU r ≤ (numR r).length) (h : True) : CallC P G 57 [AV.ptr 0 0, int (↑dep : Int)] (rdrC 2 r) (AOut.ret (val (mkT { data := List.toArray (List.take (numU r) (numR r)) }))) (rdr (List.drop (numU r) (numR r))) := by
  have _ := h
  exact CallC.out ((show CallC P G 57 [AV.ptr 0 0, int (↑dep : Int)] (rdrC 2 r) (AOut.ret (AV.agg [int 2, int 0, str { data := List.toArray (List.take (numU r) (numR r)) }, nilS])) [AObj.box [AV.sl 1 false (bys (List.drop (numU r) (numR r)))]] from callC_of [kc [0] (@Go.Cdc.one_any (AV.lit (Value.int IntKind.u8 2)) (r) (by omega)), ko (Orc.elem [AV.lit (Value.int IntKind.u8 2)]), kp (show (0 : Int) ≤ (0 : Int) ∧ [[AV.lit (Value.int IntKind.u8 2)]][Int.toNat 0]? = some [AV.lit (Value.int IntKind.u8 2)] from (⟨by decide, rfl⟩)), kf (Eq.refl false), kt (Eq.refl true), kc [0] (show CallC P G 80 [AV.ptr 0 0] [AObj.box [AV.sl 1 false (bys r)]] (AOut.ret (int (↑(numU r) : Int))) [AObj.box [AV.sl 1 false (bys (numR r))]] from (by have h0 := (@Go.Cdc.length_c (r) (by omega)); simp only [if_pos (show lenOk r = true from hok)] at h0; exact h0)), kc [0] (@Go.Cdc.take_t (numR r) (numU r) (by omega) (by omega)), ko (Orc.bytes { data := List.toArray (List.take (numU r) (numR r)) }), kp (show bys (List.take (numU r) (numR r)) = List.map (fun (c : UInt8) => [AV.lit (Value.int IntKind.u8 (↑(UInt8.toNat c) : Int))]) (Array.toList { toList := List.take (numU r) (numR r) }) from (rfl))] (by kernel_rfl))) (Sub.aggs ⟨Sub.refl _, Sub.refl _, Sub.refl _, Sub.nil _, trivial⟩)


theorem val_txt_x (dep : Nat) (r : List UInt8) (hl : r.length ≤ 999999999) (hok : lenOk r = false) (h : True) : CallC P G 57 [AV.ptr 0 0, int (↑dep : Int)] (rdrC 2 r) (AOut.pan badErr) [AObj.gone] := by
  have _ := h
  exact CallC.heapSub ((show CallC P G 57 [AV.ptr 0 0, int (↑dep : Int)] (rdrC 2 r) (AOut.pan (AV.ifc 33 (int 10))) [AObj.box [AV.sl 1 false (bys (numR r))]] from callC_of [kc [0] (@Go.Cdc.one_any (AV.lit (Value.int IntKind.u8 2)) (r) (by omega)), ko (Orc.elem [AV.lit (Value.int IntKind.u8 2)]), kp (show (0 : Int) ≤ (0 : Int) ∧ [[AV.lit (Value.int IntKind.u8 2)]][Int.toNat 0]? = some [AV.lit (Value.int IntKind.u8 2)] from (⟨by decide, rfl⟩)), kf (Eq.refl false), kt (Eq.refl true), kc [0] (show CallC P G 80 [AV.ptr 0 0] [AObj.box [AV.sl 1 false (bys r)]] (AOut.pan (AV.ifc 33 (int 10))) [AObj.box [AV.sl 1 false (bys (numR r))]] from (by have h0 := (@Go.Cdc.length_c (r) (by omega)); simp only [if_neg (show ¬ (lenOk r = true) from Bool.eq_false_iff.1 (hok))] at h0; exact h0))] (by kernel_rfl))) (by exact ⟨.inr trivial, trivial⟩)


/-! A list's elements -/
def lst0 (dep : Nat) (rest : List UInt8) (N : Nat) : St := { env := slots 50 [(0, .ptr 0 0), (1, int dep), (4, .ptr 1 0), (36, int N), (37, int 0)], H := [.box [byt rest], .box [int 3, int 0, str { data := #[] }, nilS]] }
def lst1 (dep : Nat) (rest : List UInt8) (N i g : Nat) (vs : List CV) : St := { env := slots 50 [(0, .ptr 0 0), (1, int dep), (4, .ptr 1 0), (36, int N), (37, int i)], H := [.box [byt rest], .box [int 3, int 0, str { data := #[] }, .own 2 g 0 vs.length], .arr g 4 false (encL vs)] }

theorem lst0_end (dep : Nat) (rest : List UInt8) (N : Nat) (hN : N = 0) (h : True) : RunL P G none 1 (loopAt P 57 0) (lst0 dep rest N) (AEx.exit 1) { env := slots 50 [(4, AV.ptr 1 0)], H := [AObj.box [byt rest], AObj.box [int 3, int 0, str { data := #[] }, nilS]] } := by
  have _ := h
  exact loop_exit [kf (show decide ((0 : Int) < (↑N : Int)) = false from (decide_eq_false (by omega)))] (others 50 [4]) 2 (by kernel_rfl)


theorem lst0_ok (dep : Nat) (rest rest' : List UInt8) (N : Nat) (hd : dep < 16) (hN : 0 < N) (hN2 : N ≤ 1000000000) (v : CV) (hv : CallC P G 57 [.ptr 0 0, int ((dep + 1 : Nat) : Int)] (rdr rest) (.ret (val v)) (rdr rest')) (ex : AEx) (s' : St) (h : RunL P G none 1 (loopAt P 57 0) { env := slots 50 [(0, AV.ptr 0 0), (1, int (↑dep : Int)), (4, AV.ptr 1 0), (36, int (↑N : Int)), (37, int 1)], H := [AObj.box [AV.sl 1 false (bys rest')], AObj.box [int 3, int 0, str { data := #[] }, AV.own 2 0 0 1], AObj.arr 0 4 false [[int (CV.k v), int (CV.n v), str (CV.s v), AV.sl 4 false (encL (CV.l v))]]] } ex s') : RunL P G none 1 (loopAt P 57 0) (lst0 dep rest N) ex s' := by
  exact loop_next [kt (show decide ((0 : Int) < (↑N : Int)) = true from (decide_eq_true (by omega))), kv 43 (show Am.Sub (int (IntKind.wrap IntKind.i64 ((↑dep : Int) + 1))) (int (↑(dep + 1) : Int)) from (Sub.of_wrap (by omega) (by omega) (by omega))), kc [0] (@hv ), kp (show [[int (CV.k v), int (CV.n v), str (CV.s v), AV.sl 4 false (encL (CV.l v))]] ≠ [] from (by simp)), kp (show 56 ≤ 140737488355328 from (by omega))] (others 50 [0, 1, 4, 36, 37]) 3 h (by kernel_rfl)


theorem lst0_bad (dep : Nat) (rest : List UInt8) (N : Nat) (hd : dep < 16) (hN : 0 < N) (hN2 : N ≤ 1000000000) (hv : CallC P G 57 [.ptr 0 0, int ((dep + 1 : Nat) : Int)] (rdr rest) (.pan badErr) [.gone]) (h : True) : RunL P G none 1 (loopAt P 57 0) (lst0 dep rest N) (AEx.pan badErr) { env := slots 50 [], H := [AObj.gone] } := by
  have _ := h
  exact loop_exit [kt (show decide ((0 : Int) < (↑N : Int)) = true from (decide_eq_true (by omega))), ko (Orc.at_ 5), kv 43 (show Am.Sub (int (IntKind.wrap IntKind.i64 ((↑dep : Int) + 1))) (int (↑(dep + 1) : Int)) from (Sub.of_wrap (by omega) (by omega) (by omega))), kc [0] (@hv )] (others 50 []) 1 (by kernel_rfl)


theorem lst1_end (dep : Nat) (rest : List UInt8) (N i g : Nat) (vs : List CV) (hN : N ≤ i) (h : True) : RunL P G none 1 (loopAt P 57 0) (lst1 dep rest N i g vs) (AEx.exit 1) { env := slots 50 [(4, AV.ptr 1 0)], H := [AObj.box [byt rest], AObj.box [int 3, int 0, str { data := #[] }, AV.own 2 g 0 (List.length vs)], AObj.arr g 4 false (encL vs)] } := by
  have _ := h
  exact loop_exit [kf (show decide ((↑i : Int) < (↑N : Int)) = false from (decide_eq_false (by omega)))] (others 50 [4]) 3 (by kernel_rfl)


theorem lst1_ok (dep : Nat) (rest rest' : List UInt8) (N i g : Nat) (vs : List CV) (hd : dep < 16) (hN : i < N) (hN2 : N ≤ 1000000000) (hvs : vs.length ≤ 1000000000) (v : CV) (hv : CallC P G 57 [.ptr 0 0, int ((dep + 1 : Nat) : Int)] (rdr rest) (.ret (val v)) (rdr rest')) (ex : AEx) (s' : St) (h : RunL P G none 1 (loopAt P 57 0) { env := slots 50 [(0, AV.ptr 0 0), (1, int (↑dep : Int)), (4, AV.ptr 1 0), (36, int (↑N : Int)), (37, int (↑(i + 1) : Int))], H := [AObj.box [AV.sl 1 false (bys rest')], AObj.box [int 3, int 0, str { data := #[] }, AV.own 2 (g + 1) 0 (List.length vs + 1)], AObj.arr (g + 1) 4 false (encL vs ++ [[int (CV.k v), int (CV.n v), str (CV.s v), AV.sl 4 false (encL (CV.l v))]])] } ex s') : RunL P G none 1 (loopAt P 57 0) (lst1 dep rest N i g vs) ex s' := by
  exact loop_next [kt (show decide ((↑i : Int) < (↑N : Int)) = true from (decide_eq_true (by omega))), kv 43 (show Am.Sub (int (IntKind.wrap IntKind.i64 ((↑dep : Int) + 1))) (int (↑(dep + 1) : Int)) from (Sub.of_wrap (by omega) (by omega) (by omega))), kc [0] (@hv ), kp (show g = g from (rfl)), kp (show List.length vs = List.length (encL vs) from ((Go.Cdc.encL_length _).symm)), kp (show (List.length vs + 1) * 56 ≤ 140737488355328 from (by omega)), kv 48 (show Am.Sub (int (IntKind.wrap IntKind.i64 ((↑i : Int) + 1))) (int (↑(i + 1) : Int)) from (Sub.of_wrap (by omega) (by omega) (by omega)))] (others 50 [0, 1, 4, 36, 37]) 3 h (by kernel_rfl)


theorem lst1_bad (dep : Nat) (rest : List UInt8) (N i g : Nat) (vs : List CV) (hd : dep < 16) (hN : i < N) (hN2 : N ≤ 1000000000) (hv : CallC P G 57 [.ptr 0 0, int ((dep + 1 : Nat) : Int)] (rdr rest) (.pan badErr) [.gone]) (h : True) : RunL P G none 1 (loopAt P 57 0) (lst1 dep rest N i g vs) (AEx.pan badErr) { env := slots 50 [], H := [AObj.gone] } := by
  have _ := h
  exact loop_exit [kt (show decide ((↑i : Int) < (↑N : Int)) = true from (decide_eq_true (by omega))), ko (Orc.at_ 5), kv 43 (show Am.Sub (int (IntKind.wrap IntKind.i64 ((↑dep : Int) + 1))) (int (↑(dep + 1) : Int)) from (Sub.of_wrap (by omega) (by omega) (by omega))), kc [0] (@hv )] (others 50 []) 1 (by kernel_rfl)


/-- What a list's elements come to, read by p. -/
def lstF (p : List UInt8 → Bool × CV × List UInt8) : Nat → List UInt8 → Bool × List CV × List UInt8
  | 0, r => (true, [], r)
  | n + 1, r => if (p r).1 = true then ((lstF p n (p r).2.2).1, (p r).2.1 :: (lstF p n (p r).2.2).2.1, (lstF p n (p r).2.2).2.2) else (false, [], [])
/-- What is asked of the elements' reader. -/
structure Reads (dep : Nat) (p : List UInt8 → Bool × CV × List UInt8) : Prop where
  call : ∀ l : List UInt8, l.length ≤ 1000000000 → CallC P G 57 [.ptr 0 0, int (dep : Int)] (rdr l) (if (p l).1 = true then .ret (val (p l).2.1) else .pan badErr) [if (p l).1 = true then .box [byt (p l).2.2] else .gone]
  le : ∀ l, (p l).2.2.length ≤ l.length
theorem lstF_len {p : List UInt8 → Bool × CV × List UInt8} : ∀ (n : Nat) (r : List UInt8), (lstF p n r).1 = true → (lstF p n r).2.1.length = n
  | 0, _, _ => rfl
  | n + 1, r, h => by
    simp only [lstF] at h ⊢
    split at h
    · rename_i hp
      rw [if_pos hp]
      simp [lstF_len n _ h]
    · cases h
theorem lstF_le {p : List UInt8 → Bool × CV × List UInt8} (hp : ∀ l, (p l).2.2.length ≤ l.length) : ∀ (n : Nat) (r : List UInt8), (lstF p n r).2.2.length ≤ r.length
  | 0, _ => Nat.le_refl _
  | n + 1, r => by
    simp only [lstF]
    split
    · exact Nat.le_trans (lstF_le hp n _) (hp r)
    · simp

theorem lst1_loop {dep : Nat} {p : List UInt8 → Bool × CV × List UInt8} (hp : Reads (dep + 1) p) (hd : dep < 16) (N : Nat) (hN : N ≤ 1000000000) : ∀ (n i g : Nat) (vs : List CV) (rest : List UInt8), N - i = n → i ≤ N → vs.length = i → rest.length ≤ 1000000000 →
    RunL P G none 1 (loopAt P 57 0) (lst1 dep rest N i g vs) (if (lstF p n rest).1 = true then .exit 1 else .pan badErr) { env := slots 50 [(4, if (lstF p n rest).1 = true then .ptr 1 0 else .dead)], H := if (lstF p n rest).1 = true then
      [.box [byt (lstF p n rest).2.2], .box [int 3, int 0, str { data := #[] }, .own 2 (g + n) 0 (vs ++ (lstF p n rest).2.1).length], .arr (g + n) 4 false (encL (vs ++ (lstF p n rest).2.1))] else [.gone] }
  | 0, i, g, vs, rest, hn, hi, hvs, hr => by
    simp only [lstF, if_true, List.append_nil, Nat.add_zero]
    exact lst1_end dep rest N i g vs (by omega) trivial
  | n + 1, i, g, vs, rest, hn, hi, hvs, hr => by
    have hc := hp.call rest hr
    cases hok : (p rest).1 with
    | false =>
      rw [hok] at hc
      simp only [lstF, hok, Bool.false_eq_true, if_false] at hc ⊢
      exact lst1_bad dep rest N i g vs hd (by omega) hN hc trivial
    | true =>
      rw [hok] at hc
      simp only [lstF, hok, if_true] at hc ⊢
      refine lst1_ok dep rest (p rest).2.2 N i g vs hd (by omega) hN (by omega) (p rest).2.1 hc _ _ ?_
      have ih := lst1_loop hp hd N hN n (i + 1) (g + 1) (vs ++ [(p rest).2.1]) (p rest).2.2 (by omega) (by omega) (by simp [hvs]) (Nat.le_trans (hp.le rest) hr)
      unfold lst1 at ih
      rw [← encL_append, ← encL_one, List.append_assoc, List.singleton_append, Nat.add_assoc, Nat.add_comm 1 n] at ih
      rw [show (vs ++ [(p rest).2.1]).length = vs.length + 1 from by simp] at ih
      exact ih

theorem lst0_loop {dep : Nat} {p : List UInt8 → Bool × CV × List UInt8} (hp : Reads (dep + 1) p) (hd : dep < 16) (n : Nat) (hN : n + 1 ≤ 1000000000) (rest : List UInt8) (hr : rest.length ≤ 1000000000) :
    RunL P G none 1 (loopAt P 57 0) (lst0 dep rest (n + 1)) (if (lstF p (n + 1) rest).1 = true then .exit 1 else .pan badErr) { env := slots 50 [(4, if (lstF p (n + 1) rest).1 = true then .ptr 1 0 else .dead)], H := if (lstF p (n + 1) rest).1 = true then
      [.box [byt (lstF p (n + 1) rest).2.2], .box [int 3, int 0, str { data := #[] }, .own 2 n 0 (lstF p (n + 1) rest).2.1.length], .arr n 4 false (encL (lstF p (n + 1) rest).2.1)] else [.gone] } := by
  have hc := hp.call rest hr
  cases hok : (p rest).1 with
  | false =>
    rw [hok] at hc
    simp only [lstF, hok, Bool.false_eq_true, if_false] at hc ⊢
    exact lst0_bad dep rest (n + 1) hd (by omega) hN hc trivial
  | true =>
    rw [hok] at hc
    simp only [lstF, hok, if_true] at hc ⊢
    refine lst0_ok dep rest (p rest).2.2 (n + 1) hd (by omega) hN (p rest).2.1 hc _ _ ?_
    have ih := lst1_loop hp hd (n + 1) hN n 1 0 [(p rest).2.1] (p rest).2.2 (by omega) (by omega) rfl (Nat.le_trans (hp.le rest) hr)
    unfold lst1 at ih
    rw [← encL_one, Nat.zero_add] at ih
    exact ih

end Go.Cdc

/- CODEC, 3: the program's Decode. -/
namespace Go.Cdc
set_option maxRecDepth 100000
set_option linter.unusedSimpArgs false
set_option linter.unusedVariables false
open Go Go.Am Go.Proofs Go.Seat

theorem val_deep (dep : Nat) (r : List UInt8) (hl : r.length ≤ 999999999) (hd : dep = 16) (h : True) : CallC P G 57 [AV.ptr 0 0, int (↑dep : Int)] (rdrC 3 r) (AOut.pan badErr) [AObj.gone] := by
  have _ := h
  exact CallC.heapSub ((show CallC P G 57 [AV.ptr 0 0, int (↑dep : Int)] (rdrC 3 r) (AOut.pan (AV.ifc 33 (int 10))) [AObj.box [AV.sl 1 false (bys r)]] from callC_of [kc [0] (@Go.Cdc.one_any (AV.lit (Value.int IntKind.u8 3)) (r) (by omega)), ko (Orc.elem [AV.lit (Value.int IntKind.u8 3)]), kp (show (0 : Int) ≤ (0 : Int) ∧ [[AV.lit (Value.int IntKind.u8 3)]][Int.toNat 0]? = some [AV.lit (Value.int IntKind.u8 3)] from (⟨by decide, rfl⟩)), kf (Eq.refl false), kf (Eq.refl false), kt (Eq.refl true), kc [0] (show CallC P G 58 [AV.ptr 0 0, Am.bool (decide ((↑dep : Int) < (16 : Int)))] [AObj.box [AV.sl 1 false (bys r)]] (AOut.pan (AV.ifc 33 (int 10))) [AObj.box [AV.sl 1 false (bys r)]] from (by have h0 := (@Go.Cdc.want_c (AObj.box [AV.sl 1 false (bys r)]) (decide ((↑dep : Int) < (16 : Int)))); simp only [if_neg (show ¬ (decide ((↑dep : Int) < (16 : Int)) = true) from Bool.eq_false_iff.1 (decide_eq_false (by omega)))] at h0; exact h0))] (by kernel_rfl))) (by exact ⟨.inr trivial, trivial⟩)


theorem val_len_x (dep : Nat) (r : List UInt8) (hl : r.length ≤ 999999999) (hd : dep < 16) (hok : lenOk r = false) (h : True) : CallC P G 57 [AV.ptr 0 0, int (↑dep : Int)] (rdrC 3 r) (AOut.pan badErr) [AObj.gone] := by
  have _ := h
  exact CallC.heapSub ((show CallC P G 57 [AV.ptr 0 0, int (↑dep : Int)] (rdrC 3 r) (AOut.pan (AV.ifc 33 (int 10))) [AObj.box [AV.sl 1 false (bys (numR r))]] from callC_of [kc [0] (@Go.Cdc.one_any (AV.lit (Value.int IntKind.u8 3)) (r) (by omega)), ko (Orc.elem [AV.lit (Value.int IntKind.u8 3)]), kp (show (0 : Int) ≤ (0 : Int) ∧ [[AV.lit (Value.int IntKind.u8 3)]][Int.toNat 0]? = some [AV.lit (Value.int IntKind.u8 3)] from (⟨by decide, rfl⟩)), kf (Eq.refl false), kf (Eq.refl false), kt (Eq.refl true), kc [0] (show CallC P G 58 [AV.ptr 0 0, Am.bool (decide ((↑dep : Int) < (16 : Int)))] [AObj.box [AV.sl 1 false (bys r)]] (AOut.ret (AV.tup [])) [AObj.box [AV.sl 1 false (bys r)]] from (by have h0 := (@Go.Cdc.want_c (AObj.box [AV.sl 1 false (bys r)]) (decide ((↑dep : Int) < (16 : Int)))); simp only [if_pos (show decide ((↑dep : Int) < (16 : Int)) = true from decide_eq_true (by omega))] at h0; exact h0)), kc [0] (show CallC P G 80 [AV.ptr 0 0] [AObj.box [AV.sl 1 false (bys r)]] (AOut.pan (AV.ifc 33 (int 10))) [AObj.box [AV.sl 1 false (bys (numR r))]] from (by have h0 := (@Go.Cdc.length_c (r) (by omega)); simp only [if_neg (show ¬ (lenOk r = true) from Bool.eq_false_iff.1 (hok))] at h0; exact h0))] (by kernel_rfl))) (by exact ⟨.inr trivial, trivial⟩)


theorem val_lst0 (dep : Nat) (r : List UInt8) (hl : r.length ≤ 999999999) (hd : dep < 16) (hok : lenOk r = true) (hu : numU r = 0) (h : True) : CallC P G 57 [AV.ptr 0 0, int (↑dep : Int)] (rdrC 3 r) (AOut.ret (val (mkL []))) (rdr (numR r)) := by
  have _ := h
  exact CallC.out ((show CallC P G 57 [AV.ptr 0 0, int (↑dep : Int)] (rdrC 3 r) (AOut.ret (AV.agg [int 3, int 0, str { data := #[] }, nilS])) [AObj.box [AV.sl 1 false (bys (numR r))]] from callC_of [kc [0] (@Go.Cdc.one_any (AV.lit (Value.int IntKind.u8 3)) (r) (by omega)), ko (Orc.elem [AV.lit (Value.int IntKind.u8 3)]), kp (show (0 : Int) ≤ (0 : Int) ∧ [[AV.lit (Value.int IntKind.u8 3)]][Int.toNat 0]? = some [AV.lit (Value.int IntKind.u8 3)] from (⟨by decide, rfl⟩)), kf (Eq.refl false), kf (Eq.refl false), kt (Eq.refl true), kc [0] (show CallC P G 58 [AV.ptr 0 0, Am.bool (decide ((↑dep : Int) < (16 : Int)))] [AObj.box [AV.sl 1 false (bys r)]] (AOut.ret (AV.tup [])) [AObj.box [AV.sl 1 false (bys r)]] from (by have h0 := (@Go.Cdc.want_c (AObj.box [AV.sl 1 false (bys r)]) (decide ((↑dep : Int) < (16 : Int)))); simp only [if_pos (show decide ((↑dep : Int) < (16 : Int)) = true from decide_eq_true (by omega))] at h0; exact h0)), kc [0] (show CallC P G 80 [AV.ptr 0 0] [AObj.box [AV.sl 1 false (bys r)]] (AOut.ret (int (↑(numU r) : Int))) [AObj.box [AV.sl 1 false (bys (numR r))]] from (by have h0 := (@Go.Cdc.length_c (r) (by omega)); simp only [if_pos (show lenOk r = true from hok)] at h0; exact h0)), kl [2, 3, 5, 6, 7, 8, 9, 10, 11, 12, 13, 14, 15, 16, 17, 18, 19, 20, 21, 22, 23, 24, 25, 26, 27, 28, 29, 30, 31, 32, 33, 34, 35, 38, 39, 40, 41, 42, 43, 44, 45, 46, 47, 48, 49] 2 (@Go.Cdc.lst0_end (dep) (numR r) (numU r) (by omega) (trivial))] (by kernel_rfl))) (Sub.aggs ⟨Sub.refl _, Sub.refl _, Sub.refl _, Sub.nil _, trivial⟩)


theorem val_lst_ok (dep n : Nat) (r r' : List UInt8) (vs : List CV) (hl : r.length ≤ 999999999) (hd : dep < 16) (hok : lenOk r = true) (hu : numU r = n + 1) (hlen : vs.length = n + 1) (hN : n + 1 ≤ 1000000000) (hL : RunL P G none 1 (loopAt P 57 0) (lst0 dep (numR r) (numU r)) (.exit 1) { env := slots 50 [(4, .ptr 1 0)], H := [.box [byt r'], .box [int 3, int 0, str { data := #[] }, .own 2 n 0 vs.length], .arr n 4 false (encL vs)] }) (h : True) : CallC P G 57 [AV.ptr 0 0, int (↑dep : Int)] (rdrC 3 r) (AOut.ret (val (mkL vs))) (rdr r') := by
  have _ := h
  exact callC_of [kc [0] (@Go.Cdc.one_any (AV.lit (Value.int IntKind.u8 3)) (r) (by omega)), ko (Orc.elem [AV.lit (Value.int IntKind.u8 3)]), kp (show (0 : Int) ≤ (0 : Int) ∧ [[AV.lit (Value.int IntKind.u8 3)]][Int.toNat 0]? = some [AV.lit (Value.int IntKind.u8 3)] from (⟨by decide, rfl⟩)), kf (Eq.refl false), kf (Eq.refl false), kt (Eq.refl true), kc [0] (show CallC P G 58 [AV.ptr 0 0, Am.bool (decide ((↑dep : Int) < (16 : Int)))] [AObj.box [AV.sl 1 false (bys r)]] (AOut.ret (AV.tup [])) [AObj.box [AV.sl 1 false (bys r)]] from (by have h0 := (@Go.Cdc.want_c (AObj.box [AV.sl 1 false (bys r)]) (decide ((↑dep : Int) < (16 : Int)))); simp only [if_pos (show decide ((↑dep : Int) < (16 : Int)) = true from decide_eq_true (by omega))] at h0; exact h0)), kc [0] (show CallC P G 80 [AV.ptr 0 0] [AObj.box [AV.sl 1 false (bys r)]] (AOut.ret (int (↑(numU r) : Int))) [AObj.box [AV.sl 1 false (bys (numR r))]] from (by have h0 := (@Go.Cdc.length_c (r) (by omega)); simp only [if_pos (show lenOk r = true from hok)] at h0; exact h0)), kl [2, 3, 5, 6, 7, 8, 9, 10, 11, 12, 13, 14, 15, 16, 17, 18, 19, 20, 21, 22, 23, 24, 25, 26, 27, 28, 29, 30, 31, 32, 33, 34, 35, 38, 39, 40, 41, 42, 43, 44, 45, 46, 47, 48, 49] 2 (@hL ), ko (Orc.fz (some 49) (encL vs)), kp (show n = n from (rfl)), kp (show List.take (List.length vs) (List.drop 0 (encL vs)) = encL vs from (Go.Cdc.encL_all _)), kp (show List.length (encL vs) = List.length vs from (Go.Cdc.encL_length _)), kp (show ∀ (c : List AV), c ∈ encL vs → List.all c AV.pureB = true from (Go.Cdc.encL_pure _))] (by kernel_rfl)


theorem val_lst_bad (dep n : Nat) (r : List UInt8) (hl : r.length ≤ 999999999) (hd : dep < 16) (hok : lenOk r = true) (hL : RunL P G none 1 (loopAt P 57 0) (lst0 dep (numR r) (numU r)) (.pan badErr) { env := slots 50 [], H := [.gone] }) (h : True) : CallC P G 57 [AV.ptr 0 0, int (↑dep : Int)] (rdrC 3 r) (AOut.pan badErr) [AObj.gone] := by
  have _ := h
  exact callC_of [kc [0] (@Go.Cdc.one_any (AV.lit (Value.int IntKind.u8 3)) (r) (by omega)), ko (Orc.elem [AV.lit (Value.int IntKind.u8 3)]), kp (show (0 : Int) ≤ (0 : Int) ∧ [[AV.lit (Value.int IntKind.u8 3)]][Int.toNat 0]? = some [AV.lit (Value.int IntKind.u8 3)] from (⟨by decide, rfl⟩)), kf (Eq.refl false), kf (Eq.refl false), kt (Eq.refl true), kc [0] (show CallC P G 58 [AV.ptr 0 0, Am.bool (decide ((↑dep : Int) < (16 : Int)))] [AObj.box [AV.sl 1 false (bys r)]] (AOut.ret (AV.tup [])) [AObj.box [AV.sl 1 false (bys r)]] from (by have h0 := (@Go.Cdc.want_c (AObj.box [AV.sl 1 false (bys r)]) (decide ((↑dep : Int) < (16 : Int)))); simp only [if_pos (show decide ((↑dep : Int) < (16 : Int)) = true from decide_eq_true (by omega))] at h0; exact h0)), kc [0] (show CallC P G 80 [AV.ptr 0 0] [AObj.box [AV.sl 1 false (bys r)]] (AOut.ret (int (↑(numU r) : Int))) [AObj.box [AV.sl 1 false (bys (numR r))]] from (by have h0 := (@Go.Cdc.length_c (r) (by omega)); simp only [if_pos (show lenOk r = true from hok)] at h0; exact h0)), kl [2, 3, 5, 6, 7, 8, 9, 10, 11, 12, 13, 14, 15, 16, 17, 18, 19, 20, 21, 22, 23, 24, 25, 26, 27, 28, 29, 30, 31, 32, 33, 34, 35, 38, 39, 40, 41, 42, 43, 44, 45, 46, 47, 48, 49] 2 (@hL )] (by kernel_rfl)


/-- What the program's reader makes of bytes: whether it accepts, the value, what remains. 'deep': lists are allowed. -/
def valS (deep : Bool) (p : List UInt8 → Bool × CV × List UInt8) : List UInt8 → Bool × CV × List UInt8
  | [] => (false, default, [])
  | c :: r => if c.toNat = 1 then (numOk r, mkI (sgn (numU r)), numR r)
    else if c.toNat = 2 then (lenOk r, mkT ⟨((numR r).take (numU r)).toArray⟩, (numR r).drop (numU r))
    else if c.toNat = 3 then (if deep = true ∧ lenOk r = true then ((lstF p (numU r) (numR r)).1, mkL (lstF p (numU r) (numR r)).2.1, (lstF p (numU r) (numR r)).2.2) else (false, default, []))
    else (false, default, [])
def valF : Nat → List UInt8 → Bool × CV × List UInt8
  | 0 => valS false fun _ => (false, default, [])
  | f + 1 => valS true (valF f)
theorem valS_le {deep : Bool} {p : List UInt8 → Bool × CV × List UInt8} (hp : ∀ l, (p l).2.2.length ≤ l.length) : ∀ l, (valS deep p l).2.2.length ≤ l.length
  | [] => Nat.le_refl _
  | c :: r => by
    have h1 := numR_le r
    simp only [valS]
    split
    · simp only [List.length_cons]; omega
    · split
      · simp only [List.length_cons, List.length_drop]; omega
      · split
        · split
          · have := lstF_le hp (numU r) (numR r)
            simp only [List.length_cons]; omega
          · simp
        · simp
theorem lenOk_le {r : List UInt8} (h : lenOk r = true) : numU r ≤ (numR r).length := by
  simp only [lenOk, Bool.and_eq_true, decide_eq_true_eq] at h
  exact h.2
theorem byte_eq {c d : UInt8} (h : c.toNat = d.toNat) : c = d := UInt8.toNat_inj.1 h
theorem valS_1 {deep : Bool} {p : List UInt8 → Bool × CV × List UInt8} {c : UInt8} {r : List UInt8} (h : c.toNat = 1) : valS deep p (c :: r) = (numOk r, mkI (sgn (numU r)), numR r) := by
  simp only [valS]; rw [if_pos h]
theorem valS_2 {deep : Bool} {p : List UInt8 → Bool × CV × List UInt8} {c : UInt8} {r : List UInt8} (h : c.toNat = 2) : valS deep p (c :: r) = (lenOk r, mkT ⟨((numR r).take (numU r)).toArray⟩, (numR r).drop (numU r)) := by
  simp only [valS]; rw [if_neg (by omega), if_pos h]
theorem valS_3 {deep : Bool} {p : List UInt8 → Bool × CV × List UInt8} {c : UInt8} {r : List UInt8} (h : c.toNat = 3) : valS deep p (c :: r) = if deep = true ∧ lenOk r = true then ((lstF p (numU r) (numR r)).1, mkL (lstF p (numU r) (numR r)).2.1, (lstF p (numU r) (numR r)).2.2) else (false, default, []) := by
  simp only [valS]; rw [if_neg (by omega), if_neg (by omega), if_pos h]
theorem valS_x {deep : Bool} {p : List UInt8 → Bool × CV × List UInt8} {c : UInt8} {r : List UInt8} (h1 : c.toNat ≠ 1) (h2 : c.toNat ≠ 2) (h3 : c.toNat ≠ 3) : valS deep p (c :: r) = (false, default, []) := by
  simp only [valS]; rw [if_neg h1, if_neg h2, if_neg h3]
theorem valS_call {dep : Nat} {deep : Bool} {p : List UInt8 → Bool × CV × List UInt8} (hp : deep = true → dep < 16 ∧ Reads (dep + 1) p) (hd : deep = false → dep = 16) (l : List UInt8) (hl : l.length ≤ 1000000000) :
    CallC P G 57 [.ptr 0 0, int (dep : Int)] (rdr l) (if (valS deep p l).1 = true then .ret (val (valS deep p l).2.1) else .pan badErr) [if (valS deep p l).1 = true then .box [byt (valS deep p l).2.2] else .gone] := by
  cases l with
  | nil => exact val_nil dep trivial
  | cons c r =>
    have hr : r.length ≤ 999999999 := by simp at hl; omega
    have hR := numR_le r
    by_cases h1 : c.toNat = 1
    · have hc : c = 1 := byte_eq h1
      rw [valS_1 h1]
      subst hc
      cases hok : numOk r with
      | true => simp only [if_true]; exact val_int dep r hr (numU_lt r) hok trivial
      | false => simp only [Bool.false_eq_true, if_false]; exact val_int_x dep r hr hok trivial
    · by_cases h2 : c.toNat = 2
      · have hc : c = 2 := byte_eq h2
        rw [valS_2 h2]
        subst hc
        cases hok : lenOk r with
        | true => simp only [if_true]; exact val_txt dep r hr (numU_lt r) (by omega) hok (lenOk_le hok) trivial
        | false => simp only [Bool.false_eq_true, if_false]; exact val_txt_x dep r hr hok trivial
      · by_cases h3 : c.toNat = 3
        · have hc : c = 3 := byte_eq h3
          rw [valS_3 h3]
          subst hc
          cases deep with
          | false =>
            simp only [Bool.false_eq_true, false_and, if_false]
            exact val_deep dep r hr (hd rfl) trivial
          | true =>
            obtain ⟨hdep, hp⟩ := hp rfl
            cases hok : lenOk r with
            | false => simp only [Bool.false_eq_true, and_false, if_false]; exact val_len_x dep r hr hdep hok trivial
            | true =>
              simp only [and_self, if_true]
              have hle := lenOk_le hok
              cases hu : numU r with
              | zero =>
                simp only [lstF, if_true]
                exact val_lst0 dep r hr hdep hok hu trivial
              | succ n =>
                have hL := lst0_loop hp hdep n (by omega) (numR r) (by omega)
                cases hq : (lstF p (n + 1) (numR r)).1 with
                | true =>
                  rw [hq] at hL
                  simp only [if_true] at hL ⊢
                  exact val_lst_ok dep n r _ _ hr hdep hok hu (lstF_len _ _ hq) (by omega) (by rw [hu]; exact hL) trivial
                | false =>
                  rw [hq] at hL
                  simp only [Bool.false_eq_true, if_false] at hL ⊢
                  exact val_lst_bad dep n r hr hdep hok (by rw [hu]; exact hL) trivial
        · rw [valS_x h1 h2 h3]
          simp only [if_false, Bool.false_eq_true]
          exact val_bad dep c r hr c.toNat_lt h1 h2 h3 trivial

theorem valF_reads : ∀ (f dep : Nat), f + dep = 16 → Reads dep (valF f)
  | 0, dep, h => ⟨fun l hl => valS_call (fun h => by cases h) (fun _ => by omega) l hl, valS_le fun _ => Nat.zero_le _⟩
  | f + 1, dep, h => ⟨fun l hl => valS_call (fun _ => ⟨by omega, valF_reads f (dep + 1) (by omega)⟩) (fun h => by cases h) l hl, valS_le (valF_reads f (dep + 1) (by omega)).le⟩

/-! Decode -/
theorem def_ret_p (o0 o1 o2 : AObj) : runDef P G 56 [.ptr 0 0, .ptr 1 0] [o0, o1, o2] (.ret .dead) [.br false] = some ([o0, o1, o2], .ret .dead, [false = false]) := by kernel_rfl
theorem def_ret (o0 o1 o2 : AObj) : DefC P G 56 [.ptr 0 0, .ptr 1 0] [o0, o1, o2] (.ret .dead) [o0, o1, o2] (.ret .dead) := defC_of_run _ (def_ret_p o0 o1 o2) ⟨rfl, trivial⟩
theorem def_pan_p (a b c d e : AV) (o2 : AObj) : runDef P G 56 [.ptr 0 0, .ptr 1 0] [.box [a, b, c, d], .box [e], o2] (.pan badErr) [.br true] = some ([.box [int 0, int 0, str { data := #[] }, nilS], .box [int 10], o2], .ret .dead, [true = true]) := by kernel_rfl
theorem def_pan (a b c d e : AV) (o2 : AObj) : DefC P G 56 [.ptr 0 0, .ptr 1 0] [.box [a, b, c, d], .box [e], o2] (.pan badErr) [.box [int 0, int 0, str { data := #[] }, nilS], .box [int 10], o2] (.ret .dead) := defC_of_run _ (def_pan_p a b c d e o2) ⟨rfl, trivial⟩

theorem dec_ok (l r : List UInt8) (v : CV) (hr0 : r.length = 0) (hv : CallC P G 57 [.ptr 0 0, int ((0 : Nat) : Int)] (rdr l) (.ret (val v)) (rdr r)) (h : True) : CallC P G 22 [byt l] [] (AOut.ret (AV.tup [val v, int 0])) [] := by
  have _ := h
  exact callC_of [kc [2] (@hv ), kv 16 (show Am.Sub (int (↑(List.length (bys r)) : Int)) (int (↑(List.length r) : Int)) from (Sub.of_eq (by simp only [Go.Cdc.bys_length]))), kc [2] (show CallC P G 58 [AV.ptr 0 0, Am.bool ((↑(List.length r) : Int) == 0)] [AObj.box [AV.sl 1 false (bys r)]] (AOut.ret (AV.tup [])) [AObj.box [AV.sl 1 false (bys r)]] from (by have h0 := (@Go.Cdc.want_c (AObj.box [AV.sl 1 false (bys r)]) ((↑(List.length r) : Int) == 0)); simp only [if_pos (show ((↑(List.length r) : Int) == 0) = true from decide_eq_true (by omega))] at h0; exact h0)), ko (Orc.dcall (AOut.ret AV.dead) [AObj.box [int (CV.k v), int (CV.n v), str (CV.s v), AV.sl 4 false (encL (CV.l v))], AObj.box [int 0], AObj.box [AV.sl 1 false (bys r)]]), kp (@Go.Cdc.def_ret (AObj.box [int (CV.k v), int (CV.n v), str (CV.s v), AV.sl 4 false (encL (CV.l v))]) (AObj.box [int 0]) (AObj.box [AV.sl 1 false (bys r)]))] (by kernel_rfl)


theorem dec_more (l r : List UInt8) (v : CV) (hr0 : 0 < r.length) (hv : CallC P G 57 [.ptr 0 0, int ((0 : Nat) : Int)] (rdr l) (.ret (val v)) (rdr r)) (h : True) : CallC P G 22 [byt l] [] (AOut.ret (AV.tup [val default, int 10])) [] := by
  have _ := h
  exact CallC.out ((show CallC P G 22 [byt l] [] (AOut.ret (AV.tup [AV.agg [int 0, int 0, str { data := #[] }, nilS], int 10])) [] from callC_of [kc [2] (@hv ), kv 16 (show Am.Sub (int (↑(List.length (bys r)) : Int)) (int (↑(List.length r) : Int)) from (Sub.of_eq (by simp only [Go.Cdc.bys_length]))), kc [2] (show CallC P G 58 [AV.ptr 0 0, Am.bool ((↑(List.length r) : Int) == 0)] [AObj.box [AV.sl 1 false (bys r)]] (AOut.pan (AV.ifc 33 (int 10))) [AObj.box [AV.sl 1 false (bys r)]] from (by have h0 := (@Go.Cdc.want_c (AObj.box [AV.sl 1 false (bys r)]) ((↑(List.length r) : Int) == 0)); simp only [if_neg (show ¬ (((↑(List.length r) : Int) == 0) = true) from Bool.eq_false_iff.1 (decide_eq_false (by omega)))] at h0; exact h0)), ko (Orc.dcall (AOut.ret AV.dead) [AObj.box [int 0, int 0, str { data := #[] }, nilS], AObj.box [int 10], AObj.box [AV.sl 1 false (bys r)]]), kp (@Go.Cdc.def_pan (int (CV.k v)) (int (CV.n v)) (str (CV.s v)) (AV.sl 4 false (encL (CV.l v))) (int 0) (AObj.box [AV.sl 1 false (bys r)]))] (by kernel_rfl))) (Sub.tups ⟨(Sub.aggs ⟨Sub.refl _, Sub.refl _, Sub.refl _, Sub.nil _, trivial⟩), Sub.refl _, trivial⟩)


theorem dec_bad (l : List UInt8) (hv : CallC P G 57 [.ptr 0 0, int ((0 : Nat) : Int)] (rdr l) (.pan badErr) [.gone]) (h : True) : CallC P G 22 [byt l] [] (AOut.ret (AV.tup [val default, int 10])) [] := by
  have _ := h
  exact CallC.out ((show CallC P G 22 [byt l] [] (AOut.ret (AV.tup [AV.agg [int 0, int 0, str { data := #[] }, nilS], int 10])) [] from callC_of [kc [2] (@hv ), ko (Orc.dcall (AOut.ret AV.dead) [AObj.box [int 0, int 0, str { data := #[] }, nilS], AObj.box [int 10], AObj.gone]), kp (@Go.Cdc.def_pan (int 0) (int 0) (str { data := #[] }) (nilS) (int 0) (AObj.gone))] (by kernel_rfl))) (Sub.tups ⟨(Sub.aggs ⟨Sub.refl _, Sub.refl _, Sub.refl _, Sub.nil _, trivial⟩), Sub.refl _, trivial⟩)


/-- The program's Decode: the value, the error. -/
def decB (l : List UInt8) : Bool := (valF 16 l).1 && (valF 16 l).2.2.isEmpty
def decV (l : List UInt8) : CV := if decB l = true then (valF 16 l).2.1 else default
def decE (l : List UInt8) : Int := if decB l = true then 0 else 10
theorem decode_c (l : List UInt8) (hl : l.length ≤ 1000000000) : CallC P G 22 [byt l] [] (.ret (.tup [val (decV l), int (decE l)])) [] := by
  have hv := (valF_reads 16 0 (by omega)).call l hl
  cases hok : (valF 16 l).1 with
  | false =>
    rw [hok] at hv
    simp only [Bool.false_eq_true, if_false] at hv
    have hb : decB l = false := by simp [decB, hok]
    simp only [decV, decE, hb, Bool.false_eq_true, if_false]
    exact dec_bad l hv trivial
  | true =>
    rw [hok] at hv
    simp only [if_true] at hv
    cases hr : (valF 16 l).2.2 with
    | nil =>
      have hb : decB l = true := by simp [decB, hok, hr]
      simp only [decV, decE, hb, if_true]
      rw [hr] at hv
      exact dec_ok l [] _ rfl hv trivial
    | cons c r =>
      have hb : decB l = false := by simp [decB, hok, hr]
      simp only [decV, decE, hb, Bool.false_eq_true, if_false]
      exact dec_more l _ _ (by rw [hr]; simp) hv trivial

end Go.Cdc

/- CODEC, 13: what the reference's reader reads, is what the program's reads. -/
namespace Go.Cdc
set_option maxRecDepth 100000
set_option linter.unusedSimpArgs false
set_option linter.unusedVariables false
open Go Go.Am Go.Proofs Go.Seat

theorem rsgn_eq {u : Nat} (hu : u < 18446744073709551616) : (Int.tmod (↑u : Int) 2 = (1 : Int) → (IntKind.wrap IntKind.i64 (IntKind.wrap IntKind.i64 (0 - IntKind.wrap IntKind.i64 (IntKind.wrap IntKind.u64 (Int.tdiv (↑u : Int) 2))) - 1) : Int) = sgn u) ∧ ((¬Int.tmod (↑u : Int) 2 = (1 : Int)) → (IntKind.wrap IntKind.i64 (IntKind.wrap IntKind.u64 (Int.tdiv (↑u : Int) 2)) : Int) = sgn u) := by
  have e1 : Int.tdiv (↑u : Int) 2 = ((u / 2 : Nat) : Int) := rfl
  have e2 : Int.tmod (↑u : Int) 2 = ((u % 2 : Nat) : Int) := rfl
  have e3 : IntKind.wrap IntKind.u64 ((u / 2 : Nat) : Int) = ((u / 2 : Nat) : Int) := wrap64 (by omega)
  have e4 : IntKind.wrap IntKind.i64 ((u / 2 : Nat) : Int) = ((u / 2 : Nat) : Int) := wrap_ok (by omega) (by omega)
  rw [e1, e2, e3, e4]
  unfold sgn
  refine ⟨fun h => ?_, fun h => ?_⟩
  · rw [if_neg (by omega), wrap_ok (n := 0 - ((u / 2 : Nat) : Int)) (by omega) (by omega), wrap_ok (by omega) (by omega)]; omega
  · rw [if_pos (by omega)]

/-- What is asked of the reference's reader at a depth: it reads as p does. -/
def RReads (b : List UInt8) (dep : Nat) (p : List UInt8 → Bool × CV × List UInt8) : Prop := ∀ a : Nat, a ≤ b.length → ∃ (a' : Nat) (v : CV), a' ≤ b.length ∧ ((p (b.drop a)).1 = true → v = (p (b.drop a)).2.1 ∧ b.drop a' = (p (b.drop a)).2.2) ∧
  CallC P G 74 [.ptr 0 0, int (dep : Int)] (rr b a false) (.ret (val v)) (rr b a' (!(p (b.drop a)).1))

theorem rl_loop {b : List UInt8} {dep : Nat} {p : List UInt8 → Bool × CV × List UInt8} (hp : RReads b (dep + 1) p) (hd : dep < 16) (N : Nat) (hN : N ≤ 1000000000) : ∀ (n i g a : Nat) (vs : List CV), N - i = n → i ≤ N → vs.length = i → a ≤ b.length →
    ∃ (a' g' : Nat) (ws : List CV), a' ≤ b.length ∧ ((lstF p n (b.drop a)).1 = true → ws = vs ++ (lstF p n (b.drop a)).2.1 ∧ b.drop a' = (lstF p n (b.drop a)).2.2) ∧
      RunL P G none 1 (loopAt P 74 0) (rl1 b dep a N i g false vs) (.exit 1) { env := slots 142 [(4, .ptr 1 0), (8, .ptr 2 0)], H := rr b a' (!(lstF p n (b.drop a)).1) ++ [.box [int 0, int 0, str { data := #[] }, nilS], .box [int 3, int 0, str { data := #[] }, .own 3 g' 0 ws.length], .arr g' 4 false (encL ws)] }
  | 0, i, g, a, vs, hn, hi, hvs, ha => by
    refine ⟨a, g, vs, ha, (fun _ => ⟨(List.append_nil vs).symm, rfl⟩), ?_⟩
    exact rl1_end b dep a N i g vs (by omega) trivial
  | n + 1, i, g, a, vs, hn, hi, hvs, ha => by
    obtain ⟨a1, v, h1, h2, h3⟩ := hp a ha
    have e1 : ((encL vs ++ [[int (CV.k v), int (CV.n v), str (CV.s v), AV.sl 4 false (encL (CV.l v))]]) : List (List AV)) = encL (vs ++ [v]) := by rw [← encL_append, ← encL_one]; rfl
    have e2 : vs.length + 1 = (vs ++ [v]).length := by simp
    cases hok : (p (b.drop a)).1 with
    | false =>
      rw [hok] at h3
      refine ⟨a1, g + 1, vs ++ [v], h1, (fun h => by simp [lstF, hok] at h), ?_⟩
      have e : (lstF p (n + 1) (b.drop a)).1 = false := by simp [lstF, hok]
      rw [e]
      refine rl1_step b dep a a1 N i g true vs hd (by omega) hN (by omega) v h3 _ _ ?_
      rw [e1, e2]
      exact rl1_bad b dep a1 N (i + 1) (g + 1) (vs ++ [v]) ⟨fun _ => trivial, fun _ => trivial⟩
    | true =>
      rw [hok] at h3
      obtain ⟨rfl, h5⟩ := h2 hok
      obtain ⟨a', g', ws, k1, k2, k3⟩ := rl_loop hp hd N hN n (i + 1) (g + 1) a1 (vs ++ [(p (b.drop a)).2.1]) (by omega) (by omega) (by simp [hvs]) h1
      have e : lstF p (n + 1) (b.drop a) = ((lstF p n (p (b.drop a)).2.2).1, (p (b.drop a)).2.1 :: (lstF p n (p (b.drop a)).2.2).2.1, (lstF p n (p (b.drop a)).2.2).2.2) := by simp [lstF, hok]
      rw [h5] at k2 k3
      rw [e]
      refine ⟨a', g', ws, k1, (fun h => ?_), ?_⟩
      · obtain ⟨q1, q2⟩ := k2 h
        exact ⟨by rw [q1, List.append_assoc]; rfl, q2⟩
      · refine rl1_step b dep a a1 N i g false vs hd (by omega) hN (by omega) _ h3 _ _ ?_
        rw [e1, e2]
        exact k3

theorem rl0_loop {b : List UInt8} {dep : Nat} {p : List UInt8 → Bool × CV × List UInt8} (hp : RReads b (dep + 1) p) (hd : dep < 16) (n : Nat) (hN : n + 1 ≤ 1000000000) (a : Nat) (ha : a ≤ b.length) :
    ∃ (a' g' : Nat) (ws : List CV), a' ≤ b.length ∧ ((lstF p (n + 1) (b.drop a)).1 = true → ws = (lstF p (n + 1) (b.drop a)).2.1 ∧ b.drop a' = (lstF p (n + 1) (b.drop a)).2.2) ∧
      RunL P G none 1 (loopAt P 74 0) (rl0 b dep a (n + 1)) (.exit 1) { env := slots 142 [(4, .ptr 1 0), (8, .ptr 2 0)], H := rr b a' (!(lstF p (n + 1) (b.drop a)).1) ++ [.box [int 0, int 0, str { data := #[] }, nilS], .box [int 3, int 0, str { data := #[] }, .own 3 g' 0 ws.length], .arr g' 4 false (encL ws)] } := by
  obtain ⟨a1, v, h1, h2, h3⟩ := hp a ha
  have e1 : ([[int (CV.k v), int (CV.n v), str (CV.s v), AV.sl 4 false (encL (CV.l v))]] : List (List AV)) = encL [v] := by rw [← encL_one]; rfl
  cases hok : (p (b.drop a)).1 with
  | false =>
    rw [hok] at h3
    refine ⟨a1, 0, [v], h1, (fun h => by simp [lstF, hok] at h), ?_⟩
    have e : (lstF p (n + 1) (b.drop a)).1 = false := by simp [lstF, hok]
    rw [e]
    refine rl0_step b dep a a1 (n + 1) true hd (by omega) hN v h3 _ _ ?_
    rw [e1]
    exact rl1_bad b dep a1 (n + 1) 1 0 [v] ⟨fun _ => trivial, fun _ => trivial⟩
  | true =>
    rw [hok] at h3
    obtain ⟨rfl, h5⟩ := h2 hok
    obtain ⟨a', g', ws, k1, k2, k3⟩ := rl_loop hp hd (n + 1) hN n 1 0 a1 [(p (b.drop a)).2.1] (by omega) (by omega) rfl h1
    have e : lstF p (n + 1) (b.drop a) = ((lstF p n (p (b.drop a)).2.2).1, (p (b.drop a)).2.1 :: (lstF p n (p (b.drop a)).2.2).2.1, (lstF p n (p (b.drop a)).2.2).2.2) := by simp [lstF, hok]
    rw [h5] at k2 k3
    rw [e]
    refine ⟨a', g', ws, k1, (fun h => k2 h), ?_⟩
    refine rl0_step b dep a a1 (n + 1) false hd (by omega) hN _ h3 _ _ ?_
    rw [e1]
    exact k3

theorem rvalS {b : List UInt8} {dep : Nat} {deep : Bool} {p : List UInt8 → Bool × CV × List UInt8} (hl : b.length ≤ 1000000000) (hp : deep = true → dep < 16 ∧ RReads b (dep + 1) p) (hd : deep = false → dep = 16) : RReads b dep (valS deep p) := by
  intro a ha
  have hdep : dep ≤ 16 := by
    cases deep with
    | true => have := (hp rfl).1; omega
    | false => have := hd rfl; omega
  cases hb : b.drop a with
  | nil =>
    have hlen : b.length ≤ a := by
      have := congrArg List.length hb
      simp at this; omega
    refine ⟨a, .mk 0 0 .empty [], ha, (fun h => by simp [valS] at h), ?_⟩
    exact rv_x b a a true dep 0 (nx_end b a false hlen trivial) (by decide) (by decide) (by decide) trivial
  | cons c r =>
    obtain ⟨hx, hdr, hlen⟩ := drop_cons hb
    have hn := next_ok b a false c hl hx
    obtain ⟨a2, k1, k2, k3⟩ := rnumber_c b (a + 1) hl (by omega)
    rw [hdr] at k2 k3
    have hU := numU_lt r
    by_cases h1 : c.toNat = 1
    · rw [valS_1 h1]
      cases hok : numOk r with
      | true =>
        rw [hok] at k3
        refine ⟨a2, mkI (sgn (numU r)), k1, (fun _ => ⟨rfl, k2 hok⟩), ?_⟩
        exact rv_1 b a (a + 1) a2 (numU r) false dep c hn h1 k3 _ (rsgn_eq hU)
      | false =>
        rw [hok] at k3
        refine ⟨a2, mkI (sgn 0), k1, (fun h => by cases h), ?_⟩
        exact rv_1 b a (a + 1) a2 0 true dep c hn h1 k3 _ (rsgn_eq (by decide))
    · by_cases h2 : c.toNat = 2
      · rw [valS_2 h2]
        cases hok : numOk r with
        | false =>
          rw [hok] at k3
          have e : lenOk r = false := by simp [lenOk, hok]
          rw [e]
          exact ⟨a2, .mk 0 0 .empty [], k1, (fun h => by cases h), rv_2b b a (a + 1) a2 _ dep c hn h2 k3 trivial⟩
        | true =>
          rw [hok] at k3
          have hd2 := k2 hok
          have hrl : (numR r).length = b.length - a2 := by rw [← hd2, List.length_drop]
          by_cases hle : numU r ≤ (numR r).length
          · have e : lenOk r = true := by simp [lenOk, hok, hle]
            rw [e]
            refine ⟨a2 + numU r, mkT ⟨((numR r).take (numU r)).toArray⟩, by omega, (fun _ => ⟨rfl, ?_⟩), ?_⟩
            · show b.drop (a2 + numU r) = (numR r).drop (numU r)
              rw [← hd2, List.drop_drop]
            · have := rv_2 b a (a + 1) a2 (numU r) dep c hn h2 k3 hl k1 (by omega) trivial
              rw [List.drop_take, show a2 + numU r - a2 = numU r by omega, hd2] at this
              exact this
          · have e : lenOk r = false := by simp [lenOk, hok, hle]
            rw [e]
            exact ⟨a2, .mk 0 0 .empty [], k1, (fun h => by cases h), rv_2l b a (a + 1) a2 _ dep c hn h2 k3 hl k1 (by simp only [if_true]; omega) trivial⟩
      · by_cases h3 : c.toNat = 3
        · rw [valS_3 h3]
          cases hok : numOk r with
          | false =>
            rw [hok] at k3
            have e : lenOk r = false := by simp [lenOk, hok]
            rw [if_neg (by rw [e]; simp)]
            exact ⟨a2, .mk 0 0 .empty [], k1, (fun h => by cases h), rv_3b b a (a + 1) a2 _ dep c hn h3 k3 trivial⟩
          | true =>
            rw [hok] at k3
            simp only [if_true] at k3
            have hd2 := k2 hok
            have hrl : (numR r).length = b.length - a2 := by rw [← hd2, List.length_drop]
            by_cases hle : numU r ≤ (numR r).length
            · have e : lenOk r = true := by simp [lenOk, hok, hle]
              cases deep with
              | false =>
                rw [if_neg (by simp)]
                exact ⟨a2, .mk 0 0 .empty [], k1, (fun h => by cases h), rv_3l b a (a + 1) a2 _ dep c hn h3 k3 hl k1 (.inr (hd rfl)) ⟨fun _ => trivial, fun _ => trivial⟩⟩
              | true =>
                obtain ⟨hdp, hpp⟩ := hp rfl
                rw [if_pos ⟨rfl, e⟩]
                cases hu : numU r with
                | zero =>
                  refine ⟨a2, mkL [], k1, (fun _ => ⟨rfl, hd2⟩), ?_⟩
                  rw [hu] at k3
                  exact rv_30 b a (a + 1) a2 0 dep c hn h3 k3 hl k1 hdp rfl trivial
                | succ n =>
                  obtain ⟨a', g', ws, q1, q2, q3⟩ := rl0_loop hpp hdp n (by omega) a2 k1
                  rw [hd2] at q2 q3
                  refine ⟨a', mkL ws, q1, (fun h => ⟨congrArg mkL (q2 h).1, (q2 h).2⟩), ?_⟩
                  rw [hu] at k3
                  exact rv_31 b a (a + 1) a2 (n + 1) dep c hn h3 k3 hl k1 hdp (by omega) ws a' g' _ q3 trivial
            · have e : lenOk r = false := by simp [lenOk, hok, hle]
              rw [if_neg (by rw [e]; simp)]
              exact ⟨a2, .mk 0 0 .empty [], k1, (fun h => by cases h), rv_3l b a (a + 1) a2 _ dep c hn h3 k3 hl k1 (.inl (by omega)) ⟨fun _ => trivial, fun _ => trivial⟩⟩
        · rw [valS_x h1 h2 h3]
          exact ⟨a + 1, .mk 0 0 .empty [], by omega, (fun h => by cases h), rv_x b a (a + 1) false dep c hn h1 h2 h3 trivial⟩

theorem rvalF {b : List UInt8} (hl : b.length ≤ 1000000000) : ∀ (f dep : Nat), f + dep = 16 → RReads b dep (valF f)
  | 0, dep, h => rvalS hl (fun h => by cases h) (fun _ => by omega)
  | f + 1, dep, h => rvalS hl (fun _ => ⟨by omega, rvalF hl f (dep + 1) (by omega)⟩) (fun h => by cases h)

end Go.Cdc

/- CODEC, 14: what a reader accepts is an encoding. -/
namespace Go.Cdc
set_option maxRecDepth 100000
set_option linter.unusedSimpArgs false
set_option linter.unusedVariables false
open Go Go.Am Go.Proofs Go.Seat

theorem num_numN (u : Nat) : num u = numN 9 u := (numN_eq 9 u).symm
theorem ofNat_toNat (c : UInt8) : UInt8.ofNat c.toNat = c := UInt8.toNat_inj.1 (by rw [UInt8.toNat_ofNat']; exact Nat.mod_eq_of_lt c.toNat_lt)
theorem numN_small {f u : Nat} (h : u < 128) : numN f u = [UInt8.ofNat u] := by
  cases f with
  | zero => rfl
  | succ f => simp only [numN]; rw [if_pos h]
theorem pow_step (i : Nat) : 2 ^ (7 * (i + 1)) = 128 * 2 ^ (7 * i) := by rw [Nat.mul_add, Nat.pow_add]; omega
theorem numF_sound : ∀ (l : List UInt8) (u i : Nat), i ≤ 9 → (numF l u i).1 = true → ∃ X : Nat, (numF l u i).2.1 = u + X * 2 ^ (7 * i) ∧ l = numN (9 - i) X ++ (numF l u i).2.2 ∧ (i ≠ 0 → X ≠ 0)
  | [], u, i, hi, h => by simp [numF] at h
  | c :: r, u, i, hi, h => by
    have hc8 : c.toNat < 256 := c.toNat_lt
    by_cases hbad : (i ≠ 0 ∧ c.toNat = 0) ∨ (9 ≤ i ∧ 1 < c.toNat)
    · simp only [numF] at h; rw [if_pos hbad] at h; cases h
    · by_cases hc : c.toNat < 128
      · have e : numF (c :: r) u i = (true, u + c.toNat % 128 * 2 ^ (7 * i), r) := by simp only [numF]; rw [if_neg hbad, if_pos hc]
        rw [e]
        refine ⟨c.toNat, by rw [Nat.mod_eq_of_lt hc], ?_, fun hi0 => by omega⟩
        rw [numN_small hc, ofNat_toNat]; rfl
      · have e : numF (c :: r) u i = numF r (u + c.toNat % 128 * 2 ^ (7 * i)) (i + 1) := by
          simp only [numF]; rw [if_neg hbad, if_neg hc]
        rw [e] at h ⊢
        have hi8 : i ≤ 8 := by omega
        obtain ⟨X, h1, h2, h3⟩ := numF_sound r (u + c.toNat % 128 * 2 ^ (7 * i)) (i + 1) (by omega) h
        refine ⟨c.toNat % 128 + 128 * X, ?_, ?_, fun _ => ?_⟩
        · rw [h1, pow_step, Nat.add_assoc, Nat.add_mul]
          congr 2
          rw [← Nat.mul_assoc, Nat.mul_comm X 128]
        · have hX := h3 (by omega)
          rw [show 9 - i = (9 - (i + 1)) + 1 by omega]
          simp only [numN]
          rw [if_neg (by omega), show (c.toNat % 128 + 128 * X) / 128 = X by omega, show (c.toNat % 128 + 128 * X) % 128 + 128 = c.toNat by omega, ofNat_toNat, List.cons_append, ← h2]
        · have := h3 (by omega); omega
theorem numOk_sound {l : List UInt8} (h : numOk l = true) : l = num (numU l) ++ numR l := by
  obtain ⟨X, h1, h2, _⟩ := numF_sound l 0 0 (by omega) h
  rw [num_numN]
  have : numU l = X := by
    unfold numU; rw [h1]; simp
  rw [this]
  exact h2
theorem numF_num : ∀ (f X u i : Nat) (r : List UInt8), f + i = 9 → X * 2 ^ (7 * i) < 18446744073709551616 → (i ≠ 0 → X ≠ 0) → numF (numN f X ++ r) u i = (true, u + X * 2 ^ (7 * i), r)
  | 0, X, u, i, r, hf, hX, h0 => by
    have hi : i = 9 := by omega
    subst hi
    have e9 : 2 ^ (7 * 9) = 9223372036854775808 := by decide
    rw [e9] at hX ⊢
    have hc : X < 2 := by omega
    have := h0 (by omega)
    have e : X = 1 := by omega
    subst e
    rfl
  | f + 1, X, u, i, r, hf, hX, h0 => by
    have hpos : 0 < 2 ^ (7 * i) := Nat.pow_pos (by decide)
    simp only [numN]
    by_cases hc : X < 128
    · rw [if_pos hc]
      have e : (UInt8.ofNat X).toNat = X := by rw [UInt8.toNat_ofNat']; exact Nat.mod_eq_of_lt (by omega)
      simp only [List.cons_append, List.nil_append, numF]
      rw [e, if_neg (by omega), if_pos hc, Nat.mod_eq_of_lt hc]
    · rw [if_neg hc]
      have e : (UInt8.ofNat (X % 128 + 128)).toNat = X % 128 + 128 := by rw [UInt8.toNat_ofNat']; exact Nat.mod_eq_of_lt (by omega)
      simp only [List.cons_append, numF]
      have hsplit : X * 2 ^ (7 * i) = X % 128 * 2 ^ (7 * i) + X / 128 * 2 ^ (7 * (i + 1)) := by
        rw [pow_step, ← Nat.mul_assoc, ← Nat.add_mul]
        congr 1
        omega
      rw [e, if_neg (by omega), if_neg (by omega), show (X % 128 + 128) % 128 = X % 128 by omega]
      rw [numF_num f (X / 128) _ (i + 1) r (by omega) (by omega) (fun _ => by omega), Nat.add_assoc, ← hsplit]
theorem numF_num0 (u : Nat) (hu : u < 18446744073709551616) (r : List UInt8) : numOk (num u ++ r) = true ∧ numU (num u ++ r) = u ∧ numR (num u ++ r) = r := by
  have := numF_num 9 u 0 0 r (by omega) (by simpa using hu) (fun h => absurd rfl h)
  rw [← num_numN] at this
  simp only [numOk, numU, numR, this]
  simp

theorem uns_sgn {u : Nat} : uns (sgn u) = u := by
  unfold sgn uns
  split
  · rw [if_pos (by omega)]; omega
  · rw [if_neg (by omega)]; omega
theorem sgn_uns (n : Int) : sgn (uns n) = n := by
  unfold uns
  split
  · unfold sgn; rw [if_pos (by omega)]; omega
  · unfold sgn; rw [if_neg (by omega)]; omega
theorem sgn_range {u : Nat} (h : u < 18446744073709551616) : -9223372036854775808 ≤ sgn u ∧ sgn u < 9223372036854775808 := by
  unfold sgn; split <;> omega

/-- A value read well. -/
structure Good (d : Nat) (l : List UInt8) (v : CV) (r : List UInt8) : Prop where
  wf : wf v = true
  dp : dp v ≤ d
  ok : Okv v
  eq : l = encB v ++ r
theorem wfL_of {l : List CV} (h : ∀ x ∈ l, wf x = true) : wfL l = true := by
  induction l with
  | nil => rfl
  | cons a l ih => simp only [wfL, Bool.and_eq_true]; exact ⟨h a List.mem_cons_self, ih fun x hx => h x (List.mem_cons_of_mem _ hx)⟩
theorem dpL_of {l : List CV} {d : Nat} (h : ∀ x ∈ l, dp x ≤ d) : dpL l ≤ d := by
  induction l with
  | nil => exact Nat.zero_le _
  | cons a l ih =>
    simp only [dpL]
    have := h a List.mem_cons_self
    have := ih fun x hx => h x (List.mem_cons_of_mem _ hx)
    omega
theorem lstF_sound {d : Nat} {p : List UInt8 → Bool × CV × List UInt8} (hp : ∀ l : List UInt8, l.length ≤ 1000000000 → (p l).1 = true → Good d l (p l).2.1 (p l).2.2) : ∀ (n : Nat) (r : List UInt8), r.length ≤ 1000000000 → (lstF p n r).1 = true →
    (∀ x ∈ (lstF p n r).2.1, wf x = true ∧ dp x ≤ d ∧ Okv x) ∧ r = encBL (lstF p n r).2.1 ++ (lstF p n r).2.2
  | 0, r, _, _ => ⟨fun x hx => by simp [lstF] at hx, rfl⟩
  | n + 1, r, hr, h => by
    cases hok : (p r).1 with
    | false => simp [lstF, hok] at h
    | true =>
      have e : lstF p (n + 1) r = ((lstF p n (p r).2.2).1, (p r).2.1 :: (lstF p n (p r).2.2).2.1, (lstF p n (p r).2.2).2.2) := by simp [lstF, hok]
      rw [e] at h ⊢
      have hg := hp r hr hok
      have hlen : (p r).2.2.length ≤ 1000000000 := by
        have := congrArg List.length hg.eq
        rw [List.length_append] at this; omega
      obtain ⟨k1, k2⟩ := lstF_sound hp n (p r).2.2 hlen h
      refine ⟨fun x hx => ?_, ?_⟩
      · rcases List.mem_cons.1 hx with rfl | hx
        · exact ⟨hg.wf, hg.dp, hg.ok⟩
        · exact k1 x hx
      · show r = encBL ((p r).2.1 :: _) ++ _
        rw [encBL_cons, List.append_assoc, ← k2]
        exact hg.eq
theorem size_arr (l : List UInt8) : (⟨l.toArray⟩ : ByteArray).size = l.length := by simp [ByteArray.size]
theorem valS_sound {d : Nat} {deep : Bool} {p : List UInt8 → Bool × CV × List UInt8} (hp : deep = true → 1 ≤ d ∧ ∀ l : List UInt8, l.length ≤ 1000000000 → (p l).1 = true → Good (d - 1) l (p l).2.1 (p l).2.2) :
    ∀ l : List UInt8, l.length ≤ 1000000000 → (valS deep p l).1 = true → Good d l (valS deep p l).2.1 (valS deep p l).2.2
  | [], _, h => by simp [valS] at h
  | c :: r, hl, h => by
    have hr : r.length ≤ 999999999 := by simp at hl; omega
    have hU := numU_lt r
    by_cases h1 : c.toNat = 1
    · have hc : c = 1 := byte_eq h1
      rw [valS_1 h1] at h ⊢
      subst hc
      have hs := numOk_sound h
      refine ⟨by simp [mkI, wf], by simp [mkI, dp], .mk _ _ _ _ (sgn_range hU) (by decide) (by decide) (fun x hx => by cases hx), ?_⟩
      have e1 : encB (mkI (sgn (numU r))) = 1 :: num (uns (sgn (numU r))) := by simp [encB, mkI]
      rw [e1, uns_sgn, List.cons_append, ← hs]
    · by_cases h2 : c.toNat = 2
      · have hc : c = 2 := byte_eq h2
        rw [valS_2 h2] at h ⊢
        subst hc
        have hle := lenOk_le h
        simp only [lenOk, Bool.and_eq_true] at h
        have hs := numOk_sound h.1
        have hR := numR_le r
        have hsz : (⟨((numR r).take (numU r)).toArray⟩ : ByteArray).size = numU r := by rw [size_arr, List.length_take]; omega
        refine ⟨by simp [mkT, wf], by simp [mkT, dp], .mk _ _ _ _ (by decide) (by rw [hsz]; omega) (by decide) (fun x hx => by cases hx), ?_⟩
        have e1 : encB (mkT ⟨((numR r).take (numU r)).toArray⟩) = 2 :: (num (numU r) ++ (numR r).take (numU r)) := by
          simp only [mkT, encB]
          rw [if_neg (by decide), if_pos trivial, hsz]
        rw [e1, List.cons_append, List.append_assoc, List.take_append_drop, ← hs]
      · by_cases h3 : c.toNat = 3
        · have hc : c = 3 := byte_eq h3
          rw [valS_3 h3] at h ⊢
          subst hc
          split at h
          · rename_i hcond
            rw [if_pos hcond]
            obtain ⟨hd, hok⟩ := hcond
            obtain ⟨hd1, hpp⟩ := hp hd
            have hle := lenOk_le hok
            simp only [lenOk, Bool.and_eq_true] at hok
            have hs := numOk_sound hok.1
            have hR := numR_le r
            obtain ⟨k1, k2⟩ := lstF_sound hpp (numU r) (numR r) (by omega) h
            have hlen := lstF_len _ _ h
            refine ⟨?_, ?_, .mk _ _ _ _ (by decide) (by decide) (by rw [hlen]; omega) (fun x hx => (k1 x hx).2.2), ?_⟩
            · have : wfL (lstF p (numU r) (numR r)).2.1 = true := wfL_of fun x hx => (k1 x hx).1
              simp [mkL, wf, this]
            · have : dpL (lstF p (numU r) (numR r)).2.1 ≤ d - 1 := dpL_of fun x hx => (k1 x hx).2.1
              simp only [mkL, dp, if_true]; omega
            · have e1 : encB (mkL (lstF p (numU r) (numR r)).2.1) = 3 :: (num (numU r) ++ encBL (lstF p (numU r) (numR r)).2.1) := by
                simp only [mkL, encB]
                rw [if_neg (by decide), if_neg (by decide), hlen]
              rw [e1, List.cons_append, List.append_assoc, ← k2, ← hs]
          · cases h
        · rw [valS_x h1 h2 h3] at h; cases h
theorem valF_sound : ∀ (f : Nat) (l : List UInt8), l.length ≤ 1000000000 → (valF f l).1 = true → Good f l (valF f l).2.1 (valF f l).2.2
  | 0, l, hl, h => valS_sound (d := 0) (fun h => by cases h) l hl h
  | f + 1, l, hl, h => valS_sound (d := f + 1) (fun _ => ⟨by omega, valF_sound f⟩) l hl h

end Go.Cdc

/- CODEC, 15: the reference's Decode; small functions; the examples. -/
namespace Go.Cdc
set_option maxRecDepth 100000
set_option linter.unusedSimpArgs false
set_option linter.unusedVariables false
open Go Go.Am Go.Proofs Go.Seat

theorem rdec_bad (b : List UInt8) (a' : Nat) (v : CV) (hv : CallC P G 74 [.ptr 0 0, int 0] (rr b 0 false) (.ret (val v)) (rr b a' true)) (h : True) : CallC P G 54 [byt b] [] (AOut.ret (AV.tup [vmk 0 0 ByteArray.empty [], int 10])) [] := by
  have _ := h
  exact CallC.out ((show CallC P G 54 [byt b] [] (AOut.ret (AV.tup [AV.agg [int 0, int 0, str { data := #[] }, nilS], int 10])) [] from callC_of [kc [1] (@hv ), kt (Eq.refl true), kt (Eq.refl true), kt (Eq.refl true), kt (Eq.refl true)] (by kernel_rfl))) (Sub.tups ⟨(Sub.aggs ⟨Sub.refl _, Sub.refl _, Sub.refl _, Sub.nil _, trivial⟩), Sub.refl _, trivial⟩)

theorem int_w (n : Int) (h : True) : CallC P G 70 [int n] [] (AOut.ret (vmk 1 n ByteArray.empty [])) [] := by
  have _ := h
  exact CallC.out ((show CallC P G 70 [int n] [] (AOut.ret (AV.agg [int 1, int n, str { data := #[] }, nilS])) [] from callC_of [] (by kernel_rfl))) (Sub.aggs ⟨Sub.refl _, Sub.refl _, Sub.refl _, Sub.nil _, trivial⟩)

theorem text_w (s : ByteArray) (h : True) : CallC P G 71 [str s] [] (AOut.ret (vmk 2 0 s [])) [] := by
  have _ := h
  exact CallC.out ((show CallC P G 71 [str s] [] (AOut.ret (AV.agg [int 2, int 0, str s, nilS])) [] from callC_of [] (by kernel_rfl))) (Sub.aggs ⟨Sub.refl _, Sub.refl _, Sub.refl _, Sub.nil _, trivial⟩)

theorem list_w (l : List CV) (h : True) : CallC P G 68 [AV.sl 4 false (encL l)] [] (AOut.ret (vmk 3 0 ByteArray.empty l)) [] := by
  have _ := h
  exact callC_of [] (by kernel_rfl)

theorem list_nil  (h : True) : CallC P G 68 [nilS] [] (AOut.ret (vmk 3 0 ByteArray.empty [])) [] := by
  have _ := h
  exact CallC.out ((show CallC P G 68 [nilS] [] (AOut.ret (AV.agg [int 3, int 0, str { data := #[] }, nilS])) [] from callC_of [] (by kernel_rfl))) (Sub.aggs ⟨Sub.refl _, Sub.refl _, Sub.refl _, Sub.nil _, trivial⟩)

def saSt (xs : List (List AV)) (n i : Nat) : St := { env := slots 95 [(0, bool false), (77, .sl 1 true xs), (78, int n), (79, int i)], H := [] }

end Go.Cdc

/- CODEC, 17: the statements hold. -/
namespace Go.Cdc
set_option maxRecDepth 100000
set_option linter.unusedSimpArgs false
set_option linter.unusedVariables false
open Go Go.Am Go.Proofs Go.Seat

/-! The reference's Decode -/
theorem rdecode_c (l : List UInt8) (hl : l.length ≤ 10000000) : CallC P G 54 [byt l] [] (.ret (.tup [val (decV l), int (decE l)])) [] := by
  obtain ⟨a', v, h1, h2, h3⟩ := rvalF (b := l) (by omega) 16 0 (by omega) 0 (Nat.zero_le _)
  rw [List.drop_zero] at h2 h3
  cases hok : (valF 16 l).1 with
  | false =>
    rw [hok] at h3
    have hb : decB l = false := by simp [decB, hok]
    simp only [decV, decE, hb, Bool.false_eq_true, if_false]
    exact rdec_bad l a' v h3 trivial
  | true =>
    rw [hok] at h3
    obtain ⟨rfl, hr⟩ := h2 hok
    have hg := valF_sound 16 l (by omega) hok
    have hd : dp (valF 16 l).2.1 ≤ 1000001 := Nat.le_trans hg.dp (by decide)
    have hc := rcheck_c _ hg.ok hd
    have e0 : chkE (valF 16 l).2.1 = 0 := by
      have := hg.dp
      simp only [chkE, hg.wf, if_true]; rw [if_neg (by omega)]
    rw [e0] at hc
    have hlen : (encB (valF 16 l).2.1).length ≤ 10000000 := by
      have := congrArg List.length hg.eq
      rw [List.length_append] at this; omega
    have hw := renc_c _ hg.ok hlen
    have hlr : l.length - a' = (valF 16 l).2.2.length := by rw [← hr, List.length_drop]
    refine rdec_w l a' _ false 0 h3 hc _ hw _ ⟨fun h => (by cases h), fun _ => ⟨fun ha => ⟨fun _ => ⟨fun _ => ?_, fun hne => ?_⟩, fun h => absurd rfl h⟩, fun ha => ?_⟩⟩
    · have er : (valF 16 l).2.2 = [] := List.length_eq_zero_iff.1 (by omega)
      have hb : decB l = true := by simp [decB, hok, er]
      simp only [decV, decE, hb, if_true]
      exact .refl _
    · have er : (valF 16 l).2.2 = [] := List.length_eq_zero_iff.1 (by omega)
      have := hg.eq
      rw [er, List.append_nil] at this
      rw [← this] at hne
      simp at hne
    · have er : (valF 16 l).2.2.isEmpty = false := by
        cases hq : (valF 16 l).2.2 with
        | nil => rw [hq] at hlr; simp at hlr; omega
        | cons _ _ => rfl
      have hb : decB l = false := by simp [decB, er]
      simp only [decV, decE, hb, Bool.false_eq_true, if_false]
      exact .tup2 (.aggs ⟨.refl _, .refl _, .refl _, .nil 4, trivial⟩) (.refl _)

/-! Few parts -/
theorem cnt_bound (v : CV) : ∀ d : Int, cnt d v ≤ 200 → 0 ≤ d ∧ (encB v).length ≤ 210 * cnt d v ∧ (dp v : Int) ≤ d + 1 := by
  refine CV.ind (p := fun v => ∀ d : Int, cnt d v ≤ 200 → 0 ≤ d ∧ (encB v).length ≤ 210 * cnt d v ∧ (dp v : Int) ≤ d + 1) (fun k n s l ih => ?_) v
  have hL : ∀ (d : Int), 0 ≤ d → ∀ (q : List CV), (∀ x ∈ q, ∀ d : Int, cnt d x ≤ 200 → 0 ≤ d ∧ (encB x).length ≤ 210 * cnt d x ∧ (dp x : Int) ≤ d + 1) → ∀ m : Nat, cntL d q m ≤ 200 → (encBL q).length + 210 * m ≤ 210 * cntL d q m ∧ (dpL q : Int) ≤ d := by
    intro d hd q
    induction q with
    | nil => intro _ m _; simp only [encBL, cntL, dpL, List.length_nil]; omega
    | cons x q ihq =>
      intro hx m hm
      simp only [cntL] at hm ⊢
      by_cases h : m ≤ 1000
      · rw [if_pos h] at hm ⊢
        obtain ⟨k1, k2⟩ := ihq (fun y hy => hx y (List.mem_cons_of_mem _ hy)) _ hm
        obtain ⟨q0, q1, q2⟩ := hx x List.mem_cons_self (d - 1) (by omega)
        simp only [encBL, dpL, List.length_append]
        omega
      · rw [if_neg h] at hm; omega
  intro d hc
  simp only [cnt] at hc ⊢
  by_cases h : d < 0 ∨ 150 < l.length
  · rw [if_pos h] at hc; omega
  · rw [if_neg h] at hc ⊢
    obtain ⟨k1, k2⟩ := hL d (by omega) l ih _ hc
    have hn := num_len (uns n)
    have hn2 := num_len s.size
    have hn3 := num_len l.length
    refine ⟨by omega, ?_, ?_⟩
    · simp only [encB]
      split
      · simp only [List.length_cons]; omega
      · split
        · simp only [List.length_cons, List.length_append, bdata_length]; omega
        · simp only [List.length_cons, List.length_append]; omega
    · simp only [dp]
      split <;> omega
/-! The examples -/
theorem i3_enc : encB (.mk 1 (-3) .empty []) = [1, 5] := by rfl
theorem bad1 : decE [] = 10 ∧ decV [] = default := ⟨by rfl, by rfl⟩
theorem bad2 : decE [1, 128, 0] = 10 ∧ decV [1, 128, 0] = default := ⟨by rfl, by rfl⟩
theorem bad3 : decE [1, 5, 0] = 10 ∧ decV [1, 5, 0] = default := ⟨by rfl, by rfl⟩
theorem bad4 : decE [2, 3, 97] = 10 ∧ decV [2, 3, 97] = default := ⟨by rfl, by rfl⟩
theorem int_ok (n : Int) (hn : -9223372036854775808 ≤ n ∧ n < 9223372036854775808) : Okv (.mk 1 n .empty []) := .mk _ _ _ _ hn (by decide) (by decide) (fun x hx => by cases hx)
theorem int_wf (n : Int) : wf (.mk 1 n .empty []) = true := by simp [wf]
theorem int_dp (n : Int) : dp (.mk 1 n .empty []) = 0 := by simp [dp]
theorem dec_bad_c {l : List UInt8} (hl : l.length ≤ 1000) (h : decE l = 10 ∧ decV l = default) : CallC P G 22 [byt l] [] (.ret (.tup [val default, int 10])) [] := by
  have := decode_c l (by omega)
  rw [h.1, h.2] at this
  exact this
/-! The statements -/
theorem decV_ok (l : List UInt8) (hl : l.length ≤ 10000000) : Okv (decV l) := by
  unfold decV
  split
  · rename_i h
    simp only [decB, Bool.and_eq_true] at h
    exact (valF_sound 16 l (by omega) h.1).ok
  · exact .mk _ _ _ _ (by decide) (by decide) (by decide) (fun x hx => by cases hx)
theorem numN_pos (f u : Nat) : 1 ≤ (numN f u).length := by
  cases f with
  | zero => simp [numN]
  | succ f => simp only [numN]; split <;> simp
theorem numN_mono : ∀ (f u w : Nat), u ≤ w → (numN f u).length ≤ (numN f w).length
  | 0, _, _, _ => Nat.le_refl _
  | f + 1, u, w, h => by
    simp only [numN]
    by_cases hu : u < 128
    · rw [if_pos hu]
      split
      · exact Nat.le_refl _
      · simp
    · rw [if_neg hu, if_neg (by omega)]
      have := numN_mono f (u / 128) (w / 128) (by omega)
      simp only [List.length_cons]; omega
theorem num_mono {u w : Nat} (h : u ≤ w) : (num u).length ≤ (num w).length := by
  rw [num_numN, num_numN]; exact numN_mono 9 u w h
theorem int_enc (n : Int) : encB (.mk 1 n .empty []) = 1 :: num (uns n) := by simp [encB]
theorem int_dec (n : Int) (hn : -9223372036854775808 ≤ n ∧ n < 9223372036854775808) : decV (1 :: num (uns n)) = .mk 1 n .empty [] ∧ decE (1 :: num (uns n)) = 0 := by
  obtain ⟨k1, k2, k3⟩ := numF_num0 (uns n) (uns_lt hn) []
  rw [List.append_nil] at k1 k2 k3
  have e : valF 16 (1 :: num (uns n)) = (true, mkI n, []) := by
    show valS true (valF 15) (1 :: num (uns n)) = _
    rw [valS_1 (by decide), k1, k2, k3, sgn_uns]
  have hb : decB (1 :: num (uns n)) = true := by simp [decB, e]
  simp only [decV, decE, hb, if_true, e]
  exact ⟨rfl, trivial⟩
end Go.Cdc

/- OPS, 9: the reference's Encode. -/
namespace Go.Ops
set_option maxRecDepth 100000
set_option linter.unusedSimpArgs false
set_option linter.unusedVariables false
open Go Go.Am Go.Proofs Go.Seat Go.Vec Go.Cdc

theorem rint_w (n : Int) (h : True) : CallC P G 70 [int n] [] (AOut.ret (vmk 1 n ByteArray.empty [])) [] := by
  have _ := h
  exact CallC.out ((show CallC P G 70 [int n] [] (AOut.ret (AV.agg [int 1, int n, str (ByteArray.mk #[]), nilS])) [] from callC_of [] (by kernel_rfl))) (Sub.aggs ⟨Sub.refl _, Sub.refl _, Sub.refl _, Sub.nil _, trivial⟩)

theorem rtext_w (s : ByteArray) (h : True) : CallC P G 71 [str s] [] (AOut.ret (vmk 2 0 s [])) [] := by
  have _ := h
  exact CallC.out ((show CallC P G 71 [str s] [] (AOut.ret (AV.agg [int 2, int 0, str s, nilS])) [] from callC_of [] (by kernel_rfl))) (Sub.aggs ⟨Sub.refl _, Sub.refl _, Sub.refl _, Sub.nil _, trivial⟩)

theorem rlist_w (t : Bool) (xs : List (List AV)) (h : True) : CallC P G 68 [AV.sl 4 t xs] [] (AOut.ret (AV.agg [int 3, int 0, str ByteArray.empty, AV.sl 4 false xs])) [] := by
  have _ := h
  exact CallC.out ((show CallC P G 68 [AV.sl 4 t xs] [] (AOut.ret (AV.agg [int 3, int 0, str (ByteArray.mk #[]), AV.sl 4 t xs])) [] from callC_of [] (by kernel_rfl))) (Sub.aggs ⟨Sub.refl _, Sub.refl _, Sub.refl _, (Sub.loose _ _ _), trivial⟩)

theorem rlist_0  (h : True) : CallC P G 68 [nilS] [] (AOut.ret (AV.agg [int 3, int 0, str ByteArray.empty, nilS])) [] := by
  have _ := h
  exact callC_of [] (by kernel_rfl)

theorem rint_c (n : Int) : CallC P G 70 [int n] [] (.ret (vmk 1 n .empty [])) [] := rint_w n trivial
theorem rtext_c (s : ByteArray) : CallC P G 71 [str s] [] (.ret (vmk 2 0 s [])) [] := rtext_w s trivial
theorem rlist_c (t : Bool) (xs : List (List AV)) : CallC P G 68 [.sl 4 t xs] [] (.ret (.agg [int 3, int 0, str .empty, .sl 4 false xs])) [] := rlist_w t xs trivial
theorem rlist0_c : CallC P G 68 [nilS] [] (.ret (.agg [int 3, int 0, str .empty, nilS])) [] := rlist_0 trivial

def zcv : List AV := [int 0, int 0, str ⟨#[]⟩, nilS]
def riE (l : List Int) (k : Nat) : List AV := slots 23 [(0, .sl 1 true (ints l)), (2, .ptr 0 0), (3, .ptr 1 0), (4, int k)]
def riX : List AV := slots 23 [(2, .ptr 0 0), (3, .ptr 1 0)]
def riSt0 (l : List Int) : St := { env := riE l 0, H := [.box zcv, .box [int 3, int 0, str ⟨#[]⟩, nilS]] }
def riSt1 (l : List Int) (g : Nat) (cs : List CV) (k : Nat) : St := { env := riE l k, H := [.box zcv, .box [int 3, int 0, str ⟨#[]⟩, .own 2 g 0 cs.length], .arr g 4 false (encL cs)] }

theorem ri0_end (l : List Int) (h0 : l.length = 0) (h : True) : RunL P G none 0 (loopAt P 69 0) (riSt0 l) (AEx.exit 0) (St.mk (slots 23 [(2, AV.ptr 0 0), (3, AV.ptr 1 0)]) [AObj.box zcv, AObj.box [int 3, int 0, str (ByteArray.mk #[]), nilS]] []) := by
  have _ := h
  exact loop_exit [kv 8 (show Am.Sub (int (↑(List.length (ints l)) : Int)) (int (↑(List.length l) : Int)) from (Sub.of_eq (by simp only [Go.Vec.ints_length]))), kf (show decide ((↑0 : Int) < (↑(List.length l) : Int)) = false from (decide_eq_false (by omega)))] (others 23 [2, 3]) 2 (by kernel_rfl)

theorem ri1_end (l : List Int) (g : Nat) (cs : List CV) (k : Nat) (h0 : l.length ≤ k) (h : True) : RunL P G none 0 (loopAt P 69 0) (riSt1 l g cs k) (AEx.exit 0) (St.mk (slots 23 [(2, AV.ptr 0 0), (3, AV.ptr 1 0)]) [AObj.box zcv, AObj.box [int 3, int 0, str (ByteArray.mk #[]), AV.own 2 g 0 (List.length cs)], AObj.arr g 4 false (encL cs)] []) := by
  have _ := h
  exact loop_exit [kv 8 (show Am.Sub (int (↑(List.length (ints l)) : Int)) (int (↑(List.length l) : Int)) from (Sub.of_eq (by simp only [Go.Vec.ints_length]))), kf (show decide ((↑k : Int) < (↑(List.length l) : Int)) = false from (decide_eq_false (by omega)))] (others 23 [2, 3]) 3 (by kernel_rfl)

theorem ri0_w (l : List Int) (x : Int) (h0 : 0 < l.length) (hx : l[0]? = some x) (hl : l.length ≤ 1000000) (ex : AEx) (s' : St) (h : RunL P G none 0 (loopAt P 69 0) (St.mk (slots 23 [(0, AV.sl 1 true (ints l)), (2, AV.ptr 0 0), (3, AV.ptr 1 0), (4, int 1)]) [AObj.box [int 0, int 0, str (ByteArray.mk #[]), nilS], AObj.box [int 3, int 0, str (ByteArray.mk #[]), AV.own 2 0 0 1], AObj.arr 0 4 false [[int 1, int x, str ByteArray.empty, AV.sl 4 false []]]] []) ex s') : RunL P G none 0 (loopAt P 69 0) (riSt0 l) ex s' := by
  exact loop_next [kv 8 (show Am.Sub (int (↑(List.length (ints l)) : Int)) (int (↑(List.length l) : Int)) from (Sub.of_eq (by simp only [Go.Vec.ints_length]))), kt (show decide ((↑0 : Int) < (↑(List.length l) : Int)) = true from (decide_eq_true (by omega))), ko (Orc.elem (enc1 x)), kp (show (0 : Int) ≤ (0 : Int) ∧ (ints l)[Int.toNat (↑0 : Int)]? = some (enc1 x) from (el_nat hx)), kc [] (@Go.Ops.rint_c (x)), kp (show [[int 1, int x, str ByteArray.empty, AV.sl 4 false []]] ≠ [] from (by simp)), kp (show 56 ≤ 140737488355328 from (by omega))] (others 23 [0, 2, 3, 4]) 3 h (by kernel_rfl)

theorem ri1_w (l : List Int) (g : Nat) (cs : List CV) (k : Nat) (x : Int) (h0 : k < l.length) (hx : l[k]? = some x) (hl : l.length ≤ 1000000) (hcs : cs.length ≤ 1000000) (ex : AEx) (s' : St) (h : RunL P G none 0 (loopAt P 69 0) (St.mk (slots 23 [(0, AV.sl 1 true (ints l)), (2, AV.ptr 0 0), (3, AV.ptr 1 0), (4, int (↑(k + 1) : Int))]) [AObj.box [int 0, int 0, str (ByteArray.mk #[]), nilS], AObj.box [int 3, int 0, str (ByteArray.mk #[]), AV.own 2 (g + 1) 0 (List.length cs + 1)], AObj.arr (g + 1) 4 false (encL cs ++ [[int 1, int x, str ByteArray.empty, AV.sl 4 false []]])] []) ex s') : RunL P G none 0 (loopAt P 69 0) (riSt1 l g cs k) ex s' := by
  exact loop_next [kv 8 (show Am.Sub (int (↑(List.length (ints l)) : Int)) (int (↑(List.length l) : Int)) from (Sub.of_eq (by simp only [Go.Vec.ints_length]))), kt (show decide ((↑k : Int) < (↑(List.length l) : Int)) = true from (decide_eq_true (by omega))), ko (Orc.elem (enc1 x)), kp (show (0 : Int) ≤ (↑k : Int) ∧ (ints l)[Int.toNat (↑k : Int)]? = some (enc1 x) from (el_nat hx)), kc [] (@Go.Ops.rint_c (x)), kp (show g = g from (rfl)), kp (show List.length cs = List.length (encL cs) from ((Go.Cdc.encL_length _).symm)), kp (show (List.length cs + 1) * 56 ≤ 140737488355328 from (by omega)), kv 11 (show Am.Sub (int (IntKind.wrap IntKind.i64 ((↑k : Int) + 1))) (int (↑(k + 1) : Int)) from (Sub.of_wrap (by omega) (by omega) (by omega)))] (others 23 [0, 2, 3, 4]) 3 h (by kernel_rfl)

theorem cvI_snoc {l : List Int} {k : Nat} (h : k < l.length) : (l.take (k + 1)).map cvI = (l.take k).map cvI ++ [cvI l[k]] := by
  rw [List.take_add_one, List.getElem?_eq_getElem h, List.map_append]; rfl
theorem ri1_loop (l : List Int) (hl : l.length ≤ 1000000) : ∀ (m k g : Nat), l.length - k = m → k ≤ l.length →
    ∃ g', RunL P G none 0 (loopAt P 69 0) (riSt1 l g ((l.take k).map cvI) k) (.exit 0) { env := riX, H := [.box zcv, .box [int 3, int 0, str ⟨#[]⟩, .own 2 g' 0 (l.map cvI).length], .arr g' 4 false (encL (l.map cvI))] } := by
  intro m
  induction m with
  | zero =>
    intro k g hm hk
    have e : l.take k = l := List.take_of_length_le (by omega)
    rw [e]
    exact ⟨g, ri1_end l g _ k (by omega) trivial⟩
  | succ m ih =>
    intro k g hm hk
    have hlt : k < l.length := by omega
    obtain ⟨g', h⟩ := ih (k + 1) (g + 1) (by omega) (by omega)
    refine ⟨g', ri1_w l g _ k l[k] hlt (List.getElem?_eq_getElem hlt) hl (by simp; omega) _ _ ?_⟩
    rw [cvI_snoc hlt] at h
    unfold riSt1 at h
    rw [← encL_snoc, List.length_append] at h
    exact h
theorem ri_c (l : List Int) (hl : l.length ≤ 1000000) : RunL P G none 0 (loopAt P 69 0) (riSt0 l) (.exit 0) { env := riX, H := [.box zcv, .box (Cdc.enc (cvL (l.map cvI)))] } ∨
    RunL P G none 0 (loopAt P 69 0) (riSt0 l) (.exit 0) { env := riX, H := [.box zcv, .box (Cdc.enc (cvL (l.map cvI))), .gone] } := by
  by_cases h0 : l.length = 0
  · have e : l = [] := List.eq_nil_of_length_eq_zero h0
    refine .inl (RunL.postH (ri0_end l h0 trivial) ⟨.inl rfl, .inr ⟨rfl, fun j hj => ?_⟩, trivial⟩)
    subst e
    match j, hj with
    | 0, _ => exact Sub.refl _
    | 1, _ => exact Sub.refl _
    | 2, _ => exact Sub.refl _
    | 3, _ => exact Sub.nil 4
  · have hlt : 0 < l.length := by omega
    obtain ⟨g', h⟩ := ri1_loop l hl (l.length - 1) 1 0 rfl (by omega)
    have e : (l.take 1).map cvI = [cvI l[0]] := by simpa using cvI_snoc hlt
    rw [e] at h
    have h1 := ri0_w l l[0] hlt (List.getElem?_eq_getElem hlt) hl _ _ h
    have ha : evalFrz [.box zcv, .box [int 3, int 0, str ⟨#[]⟩, .own 2 g' 0 (l.map cvI).length], .arr g' 4 false (encL (l.map cvI))] (.own 2 g' 0 (l.map cvI).length) (encL (l.map cvI)) =
        some (.sl 4 false (encL (l.map cvI)), [.box zcv, .box [int 3, int 0, str ⟨#[]⟩, .own 2 g' 0 (l.map cvI).length], .arr g' 4 true (encL (l.map cvI))],
          [g' = g', List.take (l.map cvI).length (List.drop 0 (encL (l.map cvI))) = encL (l.map cvI), (encL (l.map cvI)).length = (l.map cvI).length, ∀ c ∈ encL (l.map cvI), c.all AV.pureB = true]) := rfl
    have h2 := RunL.frzBox (b := 1) (j := 3) (cells := [int 3, int 0, str ⟨#[]⟩, .own 2 g' 0 (l.map cvI).length]) h1 rfl rfl rfl ha ⟨rfl, encL_all _, encL_length _, encL_pure _, trivial⟩
    exact .inr (RunL.postH h2 ⟨.inl rfl, .inl rfl, .inr trivial, trivial⟩)

theorem rints_0 (l : List Int) (cs : List CV) (hL : RunL P G none 0 (loopAt P 69 0) (riSt0 l) (.exit 0) { env := slots 23 [(2, .ptr 0 0), (3, .ptr 1 0)], H := [.box zcv, .box (Cdc.enc (cvL cs))] }) (h : True) : CallC P G 69 [AV.sl 1 true (ints l)] [] (AOut.ret (vmk 3 0 ByteArray.empty cs)) [] := by
  have _ := h
  exact callC_of [kl [1, 5, 6, 7, 8, 9, 10, 11, 12, 13, 14, 15, 16, 17, 18, 19, 20, 21, 22] 2 (@hL )] (by kernel_rfl)

theorem rints_1 (l : List Int) (cs : List CV) (hL : RunL P G none 0 (loopAt P 69 0) (riSt0 l) (.exit 0) { env := slots 23 [(2, .ptr 0 0), (3, .ptr 1 0)], H := [.box zcv, .box (Cdc.enc (cvL cs)), .gone] }) (h : True) : CallC P G 69 [AV.sl 1 true (ints l)] [] (AOut.ret (vmk 3 0 ByteArray.empty cs)) [] := by
  have _ := h
  exact callC_of [kl [1, 5, 6, 7, 8, 9, 10, 11, 12, 13, 14, 15, 16, 17, 18, 19, 20, 21, 22] 2 (@hL )] (by kernel_rfl)

theorem rints_c (l : List Int) (hl : l.length ≤ 1000000) : CallC P G 69 [.sl 1 true (ints l)] [] (.ret (vmk 3 0 .empty (l.map cvI))) [] := by
  rcases ri_c l hl with h | h
  · exact rints_0 l _ h trivial
  · exact rints_1 l _ h trivial
theorem ints2_c (a b : Int) : CallC P G 69 [.sl 1 true [[int a], [int b]]] [] (.ret (vmk 3 0 .empty [cvI a, cvI b])) [] := rints_c [a, b] (by simp)
theorem ints3_c (a b c : Int) : CallC P G 69 [.sl 1 true [[int a], [int b], [int c]]] [] (.ret (vmk 3 0 .empty [cvI a, cvI b, cvI c])) [] := rints_c [a, b, c] (by simp)

/-! The reference's encoding -/
def reX : List AV := slots 104 [(1, .ptr 0 0), (3, .ptr 1 0)]
def reSt0 (o : OP) : St := { env := slots 104 [(1, .ptr 0 0), (3, .ptr 1 0), (4, int 0)], H := [.box (opc o), .box [int 3, int 0, str .empty, nilS]] }
def reSt1 (o : OP) (g : Nat) (cs : List CV) (k : Nat) : St := { env := slots 104 [(1, .ptr 0 0), (3, .ptr 1 0), (4, int k)], H := [.box (opc o), .box [int 3, int 0, str .empty, .own 2 g 0 cs.length], .arr g 4 false (encL cs)] }

theorem re0_end (o : OP) (h0 : o.cx.length = 0) (h : True) : RunL P G none 0 (loopAt P 48 0) (reSt0 o) (AEx.exit 0) (St.mk (slots 104 [(1, AV.ptr 0 0), (3, AV.ptr 1 0)]) [AObj.box (opc o), AObj.box [int 3, int 0, str ByteArray.empty, nilS]] []) := by
  have _ := h
  exact loop_exit [kv 13 (show Am.Sub (int (↑(List.length (encs (OP.cx o))) : Int)) (int (↑(List.length (OP.cx o)) : Int)) from (Sub.of_eq (by simp only [Go.Vec.encs_length]))), kf (show decide ((0 : Int) < (↑(List.length (OP.cx o)) : Int)) = false from (decide_eq_false (by omega)))] (others 104 [1, 3]) 2 (by kernel_rfl)


theorem re1_end (o : OP) (g : Nat) (cs : List CV) (k : Nat) (h0 : o.cx.length ≤ k) (h : True) : RunL P G none 0 (loopAt P 48 0) (reSt1 o g cs k) (AEx.exit 0) (St.mk (slots 104 [(1, AV.ptr 0 0), (3, AV.ptr 1 0)]) [AObj.box (opc o), AObj.box [int 3, int 0, str ByteArray.empty, AV.own 2 g 0 (List.length cs)], AObj.arr g 4 false (encL cs)] []) := by
  have _ := h
  exact loop_exit [kv 13 (show Am.Sub (int (↑(List.length (encs (OP.cx o))) : Int)) (int (↑(List.length (OP.cx o)) : Int)) from (Sub.of_eq (by simp only [Go.Vec.encs_length]))), kf (show decide ((↑k : Int) < (↑(List.length (OP.cx o)) : Int)) = false from (decide_eq_false (by omega)))] (others 104 [1, 3]) 3 (by kernel_rfl)


theorem re0_w (o : OP) (x y : Int) (h0 : 0 < o.cx.length) (hx : o.cx[0]? = some (x, y)) (hl : o.cx.length ≤ 1000000000) (ex : AEx) (s' : St) (h : RunL P G none 0 (loopAt P 48 0) (St.mk (slots 104 [(1, AV.ptr 0 0), (3, AV.ptr 1 0), (4, int 1)]) [AObj.box [int (OP.dv o), int (OP.sq o), int (OP.tm o), AV.sl 2 false (encs (OP.cx o)), int (OP.pk o), str (OP.pn o), int (OP.kd o), int (OP.f1 o), int (OP.f2 o), int (OP.f3 o), int (OP.t1 o), int (OP.t2 o), int (OP.t3 o), str (OP.ky o), str (OP.vl o), int (OP.n o), Am.bool (OP.on o)], AObj.box [int 3, int 0, str ByteArray.empty, AV.own 2 0 0 1], AObj.arr 0 4 false [[int 3, int 0, str ByteArray.empty, AV.sl 4 false [[int 1, int x, str ByteArray.empty, AV.sl 4 false []], [int 1, int y, str ByteArray.empty, AV.sl 4 false []]]]]] []) ex s') : RunL P G none 0 (loopAt P 48 0) (reSt0 o) ex s' := by
  have hz2 : (0 : Int) ≤ (0 : Int) ∧ (encs (OP.cx o))[Int.toNat 0]? = some (Vec.enc (x, y)) := (el_nat hx)
  exact loop_next [kv 13 (show Am.Sub (int (↑(List.length (encs (OP.cx o))) : Int)) (int (↑(List.length (OP.cx o)) : Int)) from (Sub.of_eq (by simp only [Go.Vec.encs_length]))), kt (show decide ((0 : Int) < (↑(List.length (OP.cx o)) : Int)) = true from (decide_eq_true (by omega))), ko (Orc.elem (Vec.enc (x, y))), ko (Orc.elem (Vec.enc (x, y))), kp hz2, kp hz2, kc [] (@Go.Ops.ints2_c (x) (y)), kp (show [[int 3, int 0, str ByteArray.empty, AV.sl 4 false [[int 1, int x, str ByteArray.empty, AV.sl 4 false []], [int 1, int y, str ByteArray.empty, AV.sl 4 false []]]]] ≠ [] from (by simp)), kp (show 56 ≤ 140737488355328 from (by omega))] (others 104 [1, 3, 4]) 3 h (by kernel_rfl)


theorem re1_w (o : OP) (g : Nat) (cs : List CV) (k : Nat) (x y : Int) (h0 : k < o.cx.length) (hx : o.cx[k]? = some (x, y)) (hl : o.cx.length ≤ 1000000000) (hcs : cs.length ≤ 1000000000) (ex : AEx) (s' : St) (h : RunL P G none 0 (loopAt P 48 0) (St.mk (slots 104 [(1, AV.ptr 0 0), (3, AV.ptr 1 0), (4, int (↑(k + 1) : Int))]) [AObj.box [int (OP.dv o), int (OP.sq o), int (OP.tm o), AV.sl 2 false (encs (OP.cx o)), int (OP.pk o), str (OP.pn o), int (OP.kd o), int (OP.f1 o), int (OP.f2 o), int (OP.f3 o), int (OP.t1 o), int (OP.t2 o), int (OP.t3 o), str (OP.ky o), str (OP.vl o), int (OP.n o), Am.bool (OP.on o)], AObj.box [int 3, int 0, str ByteArray.empty, AV.own 2 (g + 1) 0 (List.length cs + 1)], AObj.arr (g + 1) 4 false (encL cs ++ [[int 3, int 0, str ByteArray.empty, AV.sl 4 false [[int 1, int x, str ByteArray.empty, AV.sl 4 false []], [int 1, int y, str ByteArray.empty, AV.sl 4 false []]]]])] []) ex s') : RunL P G none 0 (loopAt P 48 0) (reSt1 o g cs k) ex s' := by
  have hz2 : (0 : Int) ≤ (↑k : Int) ∧ (encs (OP.cx o))[Int.toNat (↑k : Int)]? = some (Vec.enc (x, y)) := (el_nat hx)
  exact loop_next [kv 13 (show Am.Sub (int (↑(List.length (encs (OP.cx o))) : Int)) (int (↑(List.length (OP.cx o)) : Int)) from (Sub.of_eq (by simp only [Go.Vec.encs_length]))), kt (show decide ((↑k : Int) < (↑(List.length (OP.cx o)) : Int)) = true from (decide_eq_true (by omega))), ko (Orc.elem (Vec.enc (x, y))), ko (Orc.elem (Vec.enc (x, y))), kp hz2, kp hz2, kc [] (@Go.Ops.ints2_c (x) (y)), kp (show g = g from (rfl)), kp (show List.length cs = List.length (encL cs) from ((Go.Cdc.encL_length _).symm)), kp (show (List.length cs + 1) * 56 ≤ 140737488355328 from (by omega)), kv 16 (show Am.Sub (int (IntKind.wrap IntKind.i64 ((↑k : Int) + 1))) (int (↑(k + 1) : Int)) from (Sub.of_wrap (by omega) (by omega) (by omega)))] (others 104 [1, 3, 4]) 3 h (by kernel_rfl)


theorem cvD_snoc {l : List D} {k : Nat} (h : k < l.length) : (l.take (k + 1)).map cvD = (l.take k).map cvD ++ [cvD l[k]] := by
  rw [List.take_add_one, List.getElem?_eq_getElem h, List.map_append]; rfl
theorem re1_loop (o : OP) (hl : o.cx.length ≤ 1000000000) : ∀ (m k g : Nat), o.cx.length - k = m → k ≤ o.cx.length →
    ∃ g', RunL P G none 0 (loopAt P 48 0) (reSt1 o g ((o.cx.take k).map cvD) k) (.exit 0) { env := reX, H := [.box (opc o), .box [int 3, int 0, str .empty, .own 2 g' 0 (o.cx.map cvD).length], .arr g' 4 false (encL (o.cx.map cvD))] } := by
  intro m
  induction m with
  | zero =>
    intro k g hm hk
    have e : o.cx.take k = o.cx := List.take_of_length_le (by omega)
    rw [e]
    exact ⟨g, re1_end o g _ k (by omega) trivial⟩
  | succ m ih =>
    intro k g hm hk
    have hlt : k < o.cx.length := by omega
    obtain ⟨g', h⟩ := ih (k + 1) (g + 1) (by omega) (by omega)
    refine ⟨g', re1_w o g _ k o.cx[k].1 o.cx[k].2 hlt (List.getElem?_eq_getElem hlt) hl (by simp; omega) _ _ ?_⟩
    rw [cvD_snoc hlt] at h
    unfold reSt1 at h
    rw [← encL_snoc, List.length_append] at h
    exact h
theorem re_c (o : OP) (hl : o.cx.length ≤ 1000000000) : RunL P G none 0 (loopAt P 48 0) (reSt0 o) (.exit 0) { env := reX, H := [.box (opc o), .box (Cdc.enc (ctxV o))] } ∨
    RunL P G none 0 (loopAt P 48 0) (reSt0 o) (.exit 0) { env := reX, H := [.box (opc o), .box (Cdc.enc (ctxV o)), .gone] } := by
  by_cases h0 : o.cx.length = 0
  · have e : o.cx = [] := List.eq_nil_of_length_eq_zero h0
    refine .inl (RunL.postH (re0_end o h0 trivial) ⟨.inl rfl, .inr ⟨rfl, fun j hj => ?_⟩, trivial⟩)
    unfold ctxV
    rw [e]
    match j, hj with
    | 0, _ => exact Sub.refl _
    | 1, _ => exact Sub.refl _
    | 2, _ => exact Sub.refl _
    | 3, _ => exact Sub.nil 4
  · have hlt : 0 < o.cx.length := by omega
    obtain ⟨g', h⟩ := re1_loop o hl (o.cx.length - 1) 1 0 rfl (by omega)
    have e : (o.cx.take 1).map cvD = [cvD o.cx[0]] := by simpa using cvD_snoc hlt
    rw [e] at h
    have h1 := re0_w o o.cx[0].1 o.cx[0].2 hlt (List.getElem?_eq_getElem hlt) hl _ _ h
    have ha : evalFrz [.box (opc o), .box [int 3, int 0, str .empty, .own 2 g' 0 (o.cx.map cvD).length], .arr g' 4 false (encL (o.cx.map cvD))] (.own 2 g' 0 (o.cx.map cvD).length) (encL (o.cx.map cvD)) =
        some (.sl 4 false (encL (o.cx.map cvD)), [.box (opc o), .box [int 3, int 0, str .empty, .own 2 g' 0 (o.cx.map cvD).length], .arr g' 4 true (encL (o.cx.map cvD))],
          [g' = g', List.take (o.cx.map cvD).length (List.drop 0 (encL (o.cx.map cvD))) = encL (o.cx.map cvD), (encL (o.cx.map cvD)).length = (o.cx.map cvD).length, ∀ c ∈ encL (o.cx.map cvD), c.all AV.pureB = true]) := rfl
    have h2 := RunL.frzBox (b := 1) (j := 3) (cells := [int 3, int 0, str .empty, .own 2 g' 0 (o.cx.map cvD).length]) h1 rfl rfl rfl ha ⟨rfl, encL_all _, encL_length _, encL_pure _, trivial⟩
    exact .inr (RunL.postH h2 ⟨.inl rfl, .inl rfl, .inr trivial, trivial⟩)

theorem renc_t0 (o : OP) (l : List UInt8) (e : Int) (hon : o.on = true) (hL : RunL P G none 0 (loopAt P 48 0) (reSt0 o) (.exit 0) { env := slots 104 [(1, .ptr 0 0), (3, .ptr 1 0)], H := [.box (opc o), .box (Cdc.enc (ctxV o))] }) (he : CallC P G 72 [val (opW o 1)] [] (.ret (.tup [byt l, int e])) []) (h : True) : CallC P G 48 [op o] [] (AOut.ret (byt l)) [] := by
  have _ := h
  exact callC_of [kc [] (@Go.Ops.rlist0_c ), kl [0, 2, 5, 6, 7, 8, 9, 10, 11, 12, 13, 14, 15, 16, 17, 18, 19, 20, 21, 22, 23, 24, 25, 26, 27, 28, 29, 30, 31, 32, 33, 34, 35, 36, 37, 38, 39, 40, 41, 42, 43, 44, 45, 46, 47, 48, 49, 50, 51, 52, 53, 54, 55, 56, 57, 58, 59, 60, 61, 62, 63, 64, 65, 66, 67, 68, 69, 70, 71, 72, 73, 74, 75, 76, 77, 78, 79, 80, 81, 82, 83, 84, 85, 86, 87, 88, 89, 90, 91, 92, 93, 94, 95, 96, 97, 98, 99, 100, 101, 102, 103] 2 (@hL ), kt hon, kc [] (@Go.Ops.rint_c (OP.dv o)), kc [] (@Go.Ops.rint_c (OP.sq o)), kc [] (@Go.Ops.rint_c (OP.tm o)), kc [] (@Go.Ops.rint_c (OP.pk o)), kc [] (@Go.Ops.rtext_c (OP.pn o)), kc [] (@Go.Ops.rlist_c (true) ([[int 1, int (OP.pk o), str ByteArray.empty, AV.sl 4 false []], [int 2, int 0, str (OP.pn o), AV.sl 4 false []]])), kc [] (@Go.Ops.rint_c (OP.kd o)), kc [] (@Go.Ops.ints3_c (OP.f1 o) (OP.f2 o) (OP.f3 o)), kc [] (@Go.Ops.ints3_c (OP.t1 o) (OP.t2 o) (OP.t3 o)), kc [] (@Go.Ops.rtext_c (OP.ky o)), kc [] (@Go.Ops.rtext_c (OP.vl o)), kc [] (@Go.Ops.rint_c (OP.n o)), kc [] (@Go.Ops.rint_c (1)), kc [] (@Go.Ops.rlist_c (true) ([[int 1, int (OP.dv o), str ByteArray.empty, AV.sl 4 false []], [int 1, int (OP.sq o), str ByteArray.empty, AV.sl 4 false []], [int 1, int (OP.tm o), str ByteArray.empty, AV.sl 4 false []], [int (CV.k (ctxV o)), int (CV.n (ctxV o)), str (CV.s (ctxV o)), AV.sl 4 false (encL (CV.l (ctxV o)))], [int 3, int 0, str ByteArray.empty, AV.sl 4 false [[int 1, int (OP.pk o), str ByteArray.empty, AV.sl 4 false []], [int 2, int 0, str (OP.pn o), AV.sl 4 false []]]], [int 1, int (OP.kd o), str ByteArray.empty, AV.sl 4 false []], [int 3, int 0, str ByteArray.empty, AV.sl 4 false [[int 1, int (OP.f1 o), str ByteArray.empty, AV.sl 4 false []], [int 1, int (OP.f2 o), str ByteArray.empty, AV.sl 4 false []], [int 1, int (OP.f3 o), str ByteArray.empty, AV.sl 4 false []]]], [int 3, int 0, str ByteArray.empty, AV.sl 4 false [[int 1, int (OP.t1 o), str ByteArray.empty, AV.sl 4 false []], [int 1, int (OP.t2 o), str ByteArray.empty, AV.sl 4 false []], [int 1, int (OP.t3 o), str ByteArray.empty, AV.sl 4 false []]]], [int 2, int 0, str (OP.ky o), AV.sl 4 false []], [int 2, int 0, str (OP.vl o), AV.sl 4 false []], [int 1, int (OP.n o), str ByteArray.empty, AV.sl 4 false []], [int 1, int 1, str ByteArray.empty, AV.sl 4 false []]])), kc [] (@he )] (by kernel_rfl)


theorem renc_t1 (o : OP) (l : List UInt8) (e : Int) (hon : o.on = true) (hL : RunL P G none 0 (loopAt P 48 0) (reSt0 o) (.exit 0) { env := slots 104 [(1, .ptr 0 0), (3, .ptr 1 0)], H := [.box (opc o), .box (Cdc.enc (ctxV o)), .gone] }) (he : CallC P G 72 [val (opW o 1)] [] (.ret (.tup [byt l, int e])) []) (h : True) : CallC P G 48 [op o] [] (AOut.ret (byt l)) [] := by
  have _ := h
  exact callC_of [kc [] (@Go.Ops.rlist0_c ), kl [0, 2, 5, 6, 7, 8, 9, 10, 11, 12, 13, 14, 15, 16, 17, 18, 19, 20, 21, 22, 23, 24, 25, 26, 27, 28, 29, 30, 31, 32, 33, 34, 35, 36, 37, 38, 39, 40, 41, 42, 43, 44, 45, 46, 47, 48, 49, 50, 51, 52, 53, 54, 55, 56, 57, 58, 59, 60, 61, 62, 63, 64, 65, 66, 67, 68, 69, 70, 71, 72, 73, 74, 75, 76, 77, 78, 79, 80, 81, 82, 83, 84, 85, 86, 87, 88, 89, 90, 91, 92, 93, 94, 95, 96, 97, 98, 99, 100, 101, 102, 103] 2 (@hL ), kt hon, kc [] (@Go.Ops.rint_c (OP.dv o)), kc [] (@Go.Ops.rint_c (OP.sq o)), kc [] (@Go.Ops.rint_c (OP.tm o)), kc [] (@Go.Ops.rint_c (OP.pk o)), kc [] (@Go.Ops.rtext_c (OP.pn o)), kc [] (@Go.Ops.rlist_c (true) ([[int 1, int (OP.pk o), str ByteArray.empty, AV.sl 4 false []], [int 2, int 0, str (OP.pn o), AV.sl 4 false []]])), kc [] (@Go.Ops.rint_c (OP.kd o)), kc [] (@Go.Ops.ints3_c (OP.f1 o) (OP.f2 o) (OP.f3 o)), kc [] (@Go.Ops.ints3_c (OP.t1 o) (OP.t2 o) (OP.t3 o)), kc [] (@Go.Ops.rtext_c (OP.ky o)), kc [] (@Go.Ops.rtext_c (OP.vl o)), kc [] (@Go.Ops.rint_c (OP.n o)), kc [] (@Go.Ops.rint_c (1)), kc [] (@Go.Ops.rlist_c (true) ([[int 1, int (OP.dv o), str ByteArray.empty, AV.sl 4 false []], [int 1, int (OP.sq o), str ByteArray.empty, AV.sl 4 false []], [int 1, int (OP.tm o), str ByteArray.empty, AV.sl 4 false []], [int (CV.k (ctxV o)), int (CV.n (ctxV o)), str (CV.s (ctxV o)), AV.sl 4 false (encL (CV.l (ctxV o)))], [int 3, int 0, str ByteArray.empty, AV.sl 4 false [[int 1, int (OP.pk o), str ByteArray.empty, AV.sl 4 false []], [int 2, int 0, str (OP.pn o), AV.sl 4 false []]]], [int 1, int (OP.kd o), str ByteArray.empty, AV.sl 4 false []], [int 3, int 0, str ByteArray.empty, AV.sl 4 false [[int 1, int (OP.f1 o), str ByteArray.empty, AV.sl 4 false []], [int 1, int (OP.f2 o), str ByteArray.empty, AV.sl 4 false []], [int 1, int (OP.f3 o), str ByteArray.empty, AV.sl 4 false []]]], [int 3, int 0, str ByteArray.empty, AV.sl 4 false [[int 1, int (OP.t1 o), str ByteArray.empty, AV.sl 4 false []], [int 1, int (OP.t2 o), str ByteArray.empty, AV.sl 4 false []], [int 1, int (OP.t3 o), str ByteArray.empty, AV.sl 4 false []]]], [int 2, int 0, str (OP.ky o), AV.sl 4 false []], [int 2, int 0, str (OP.vl o), AV.sl 4 false []], [int 1, int (OP.n o), str ByteArray.empty, AV.sl 4 false []], [int 1, int 1, str ByteArray.empty, AV.sl 4 false []]])), kc [] (@he )] (by kernel_rfl)


theorem renc_f0 (o : OP) (l : List UInt8) (e : Int) (hon : o.on = false) (hL : RunL P G none 0 (loopAt P 48 0) (reSt0 o) (.exit 0) { env := slots 104 [(1, .ptr 0 0), (3, .ptr 1 0)], H := [.box (opc o), .box (Cdc.enc (ctxV o))] }) (he : CallC P G 72 [val (opW o 0)] [] (.ret (.tup [byt l, int e])) []) (h : True) : CallC P G 48 [op o] [] (AOut.ret (byt l)) [] := by
  have _ := h
  exact callC_of [kc [] (@Go.Ops.rlist0_c ), kl [0, 2, 5, 6, 7, 8, 9, 10, 11, 12, 13, 14, 15, 16, 17, 18, 19, 20, 21, 22, 23, 24, 25, 26, 27, 28, 29, 30, 31, 32, 33, 34, 35, 36, 37, 38, 39, 40, 41, 42, 43, 44, 45, 46, 47, 48, 49, 50, 51, 52, 53, 54, 55, 56, 57, 58, 59, 60, 61, 62, 63, 64, 65, 66, 67, 68, 69, 70, 71, 72, 73, 74, 75, 76, 77, 78, 79, 80, 81, 82, 83, 84, 85, 86, 87, 88, 89, 90, 91, 92, 93, 94, 95, 96, 97, 98, 99, 100, 101, 102, 103] 2 (@hL ), kf hon, kc [] (@Go.Ops.rint_c (OP.dv o)), kc [] (@Go.Ops.rint_c (OP.sq o)), kc [] (@Go.Ops.rint_c (OP.tm o)), kc [] (@Go.Ops.rint_c (OP.pk o)), kc [] (@Go.Ops.rtext_c (OP.pn o)), kc [] (@Go.Ops.rlist_c (true) ([[int 1, int (OP.pk o), str ByteArray.empty, AV.sl 4 false []], [int 2, int 0, str (OP.pn o), AV.sl 4 false []]])), kc [] (@Go.Ops.rint_c (OP.kd o)), kc [] (@Go.Ops.ints3_c (OP.f1 o) (OP.f2 o) (OP.f3 o)), kc [] (@Go.Ops.ints3_c (OP.t1 o) (OP.t2 o) (OP.t3 o)), kc [] (@Go.Ops.rtext_c (OP.ky o)), kc [] (@Go.Ops.rtext_c (OP.vl o)), kc [] (@Go.Ops.rint_c (OP.n o)), kc [] (@Go.Ops.rint_c (0)), kc [] (@Go.Ops.rlist_c (true) ([[int 1, int (OP.dv o), str ByteArray.empty, AV.sl 4 false []], [int 1, int (OP.sq o), str ByteArray.empty, AV.sl 4 false []], [int 1, int (OP.tm o), str ByteArray.empty, AV.sl 4 false []], [int (CV.k (ctxV o)), int (CV.n (ctxV o)), str (CV.s (ctxV o)), AV.sl 4 false (encL (CV.l (ctxV o)))], [int 3, int 0, str ByteArray.empty, AV.sl 4 false [[int 1, int (OP.pk o), str ByteArray.empty, AV.sl 4 false []], [int 2, int 0, str (OP.pn o), AV.sl 4 false []]]], [int 1, int (OP.kd o), str ByteArray.empty, AV.sl 4 false []], [int 3, int 0, str ByteArray.empty, AV.sl 4 false [[int 1, int (OP.f1 o), str ByteArray.empty, AV.sl 4 false []], [int 1, int (OP.f2 o), str ByteArray.empty, AV.sl 4 false []], [int 1, int (OP.f3 o), str ByteArray.empty, AV.sl 4 false []]]], [int 3, int 0, str ByteArray.empty, AV.sl 4 false [[int 1, int (OP.t1 o), str ByteArray.empty, AV.sl 4 false []], [int 1, int (OP.t2 o), str ByteArray.empty, AV.sl 4 false []], [int 1, int (OP.t3 o), str ByteArray.empty, AV.sl 4 false []]]], [int 2, int 0, str (OP.ky o), AV.sl 4 false []], [int 2, int 0, str (OP.vl o), AV.sl 4 false []], [int 1, int (OP.n o), str ByteArray.empty, AV.sl 4 false []], [int 1, int 0, str ByteArray.empty, AV.sl 4 false []]])), kc [] (@he )] (by kernel_rfl)


theorem renc_f1 (o : OP) (l : List UInt8) (e : Int) (hon : o.on = false) (hL : RunL P G none 0 (loopAt P 48 0) (reSt0 o) (.exit 0) { env := slots 104 [(1, .ptr 0 0), (3, .ptr 1 0)], H := [.box (opc o), .box (Cdc.enc (ctxV o)), .gone] }) (he : CallC P G 72 [val (opW o 0)] [] (.ret (.tup [byt l, int e])) []) (h : True) : CallC P G 48 [op o] [] (AOut.ret (byt l)) [] := by
  have _ := h
  exact callC_of [kc [] (@Go.Ops.rlist0_c ), kl [0, 2, 5, 6, 7, 8, 9, 10, 11, 12, 13, 14, 15, 16, 17, 18, 19, 20, 21, 22, 23, 24, 25, 26, 27, 28, 29, 30, 31, 32, 33, 34, 35, 36, 37, 38, 39, 40, 41, 42, 43, 44, 45, 46, 47, 48, 49, 50, 51, 52, 53, 54, 55, 56, 57, 58, 59, 60, 61, 62, 63, 64, 65, 66, 67, 68, 69, 70, 71, 72, 73, 74, 75, 76, 77, 78, 79, 80, 81, 82, 83, 84, 85, 86, 87, 88, 89, 90, 91, 92, 93, 94, 95, 96, 97, 98, 99, 100, 101, 102, 103] 2 (@hL ), kf hon, kc [] (@Go.Ops.rint_c (OP.dv o)), kc [] (@Go.Ops.rint_c (OP.sq o)), kc [] (@Go.Ops.rint_c (OP.tm o)), kc [] (@Go.Ops.rint_c (OP.pk o)), kc [] (@Go.Ops.rtext_c (OP.pn o)), kc [] (@Go.Ops.rlist_c (true) ([[int 1, int (OP.pk o), str ByteArray.empty, AV.sl 4 false []], [int 2, int 0, str (OP.pn o), AV.sl 4 false []]])), kc [] (@Go.Ops.rint_c (OP.kd o)), kc [] (@Go.Ops.ints3_c (OP.f1 o) (OP.f2 o) (OP.f3 o)), kc [] (@Go.Ops.ints3_c (OP.t1 o) (OP.t2 o) (OP.t3 o)), kc [] (@Go.Ops.rtext_c (OP.ky o)), kc [] (@Go.Ops.rtext_c (OP.vl o)), kc [] (@Go.Ops.rint_c (OP.n o)), kc [] (@Go.Ops.rint_c (0)), kc [] (@Go.Ops.rlist_c (true) ([[int 1, int (OP.dv o), str ByteArray.empty, AV.sl 4 false []], [int 1, int (OP.sq o), str ByteArray.empty, AV.sl 4 false []], [int 1, int (OP.tm o), str ByteArray.empty, AV.sl 4 false []], [int (CV.k (ctxV o)), int (CV.n (ctxV o)), str (CV.s (ctxV o)), AV.sl 4 false (encL (CV.l (ctxV o)))], [int 3, int 0, str ByteArray.empty, AV.sl 4 false [[int 1, int (OP.pk o), str ByteArray.empty, AV.sl 4 false []], [int 2, int 0, str (OP.pn o), AV.sl 4 false []]]], [int 1, int (OP.kd o), str ByteArray.empty, AV.sl 4 false []], [int 3, int 0, str ByteArray.empty, AV.sl 4 false [[int 1, int (OP.f1 o), str ByteArray.empty, AV.sl 4 false []], [int 1, int (OP.f2 o), str ByteArray.empty, AV.sl 4 false []], [int 1, int (OP.f3 o), str ByteArray.empty, AV.sl 4 false []]]], [int 3, int 0, str ByteArray.empty, AV.sl 4 false [[int 1, int (OP.t1 o), str ByteArray.empty, AV.sl 4 false []], [int 1, int (OP.t2 o), str ByteArray.empty, AV.sl 4 false []], [int 1, int (OP.t3 o), str ByteArray.empty, AV.sl 4 false []]]], [int 2, int 0, str (OP.ky o), AV.sl 4 false []], [int 2, int 0, str (OP.vl o), AV.sl 4 false []], [int 1, int (OP.n o), str ByteArray.empty, AV.sl 4 false []], [int 1, int 0, str ByteArray.empty, AV.sl 4 false []]])), kc [] (@he )] (by kernel_rfl)


theorem renc_ok (o : OP) (l : List UInt8) (e : Int) (hl : o.cx.length ≤ 1000000000) (he : CallC P G 72 [val (opV o)] [] (.ret (.tup [byt l, int e])) []) : CallC P G 48 [op o] [] (.ret (byt l)) [] := by
  unfold opV at he
  cases hon : o.on with
  | true =>
    rw [hon, if_pos rfl] at he
    rcases re_c o hl with h | h
    · exact renc_t0 o l e hon h he trivial
    · exact renc_t1 o l e hon h he trivial
  | false =>
    rw [hon, if_neg (by decide)] at he
    rcases re_c o hl with h | h
    · exact renc_f0 o l e hon h he trivial
    · exact renc_f1 o l e hon h he trivial

theorem rencode_w (o : OP) (c : Int) (l : List UInt8) (hc : CallC P G 13 [op o] [] (.ret (int c)) []) (he : CallC P G 48 [op o] [] (.ret (byt l)) []) (h0 : c = 0) (h : True) : CallC P G 19 [op o] [] (AOut.ret (AV.tup [byt l, int 0])) [] := by
  have _ := h
  exact callC_of [kc [] (@hc ), kf (show (c != 0) = false from (congrArg Bool.not (decide_eq_true (by omega)))), kc [] (@he )] (by kernel_rfl)


theorem rencode_x (o : OP) (c : Int) (hc : CallC P G 13 [op o] [] (.ret (int c)) []) (h0 : ¬ c = 0) (h : True) : CallC P G 19 [op o] [] (AOut.ret (AV.tup [byt [], int c])) [] := by
  have _ := h
  exact CallC.out ((show CallC P G 19 [op o] [] (AOut.ret (AV.tup [nilS, int c])) [] from callC_of [kc [] (@hc ), kt (show (c != 0) = true from (congrArg Bool.not (decide_eq_false (by omega))))] (by kernel_rfl))) (Sub.tups ⟨Sub.nil _, Sub.refl _, trivial⟩)


end Go.Ops

/- OPS, 8: the program's Decode. -/
namespace Go.Ops
set_option maxRecDepth 100000
set_option linter.unusedSimpArgs false
set_option linter.unusedVariables false
open Go Go.Am Go.Proofs Go.Seat Go.Vec Go.Cdc

theorem dec_x (b : List UInt8) (v : CV) (e : Int) (he : ¬ e = 0) (hd : CallC P G 22 [byt b] [] (.ret (.tup [val v, int e])) []) (h : True) : CallC P G 20 [byt b] [] (AOut.ret (AV.tup [op zop, int e])) [] := by
  have _ := h
  exact CallC.out ((show CallC P G 20 [byt b] [] (AOut.ret (AV.tup [AV.agg [int 0, int 0, int 0, nilS, int 0, str (ByteArray.mk #[]), int 0, int 0, int 0, int 0, int 0, int 0, int 0, str (ByteArray.mk #[]), str (ByteArray.mk #[]), int 0, Am.bool false], int e])) [] from callC_of [kc [] (@hd ), kt (show (e != 0) = true from (congrArg Bool.not (decide_eq_false (by omega))))] (by kernel_rfl))) (Sub.tups ⟨(Sub.aggs ⟨Sub.refl _, Sub.refl _, Sub.refl _, Sub.nil _, Sub.refl _, Sub.refl _, Sub.refl _, Sub.refl _, Sub.refl _, Sub.refl _, Sub.refl _, Sub.refl _, Sub.refl _, Sub.refl _, Sub.refl _, Sub.refl _, Sub.refl _, trivial⟩), Sub.refl _, trivial⟩)

def rcells (a b c : Int) (cx : AV) : List AV := [int a, int b, int c, cx, int 0, str ⟨#[]⟩, int 0, int 0, int 0, int 0, int 0, int 0, int 0, str ⟨#[]⟩, str ⟨#[]⟩, int 0, bool false]
def decE0 (b : List UInt8) : List AV := slots 104 [(0, byt b), (2, .ptr 0 0), (3, int 0), (5, .ptr 2 0), (6, .fn (.func 49) [.ptr 2 0] []), (7, .fn (.func 50) [.ptr 2 0] []), (8, .ptr 3 0)]
def decH (v : CV) (cx : AV) (C : List CV) (k : Nat) : List AObj := [.box (rcells (at_ v.l 0).n (at_ v.l 1).n (at_ v.l 2).n cx), .box (enc v), .box [.sl 4 false (encL (v.l.drop 4))], .box [.sl 4 false (encL (C.drop k))]]
def decSt0 (b : List UInt8) (v : CV) (C : List CV) : St := { env := decE0 b, H := decH v nilS C 0 }
def decSt1 (b : List UInt8) (v : CV) (C : List CV) (g : Nat) (ds : List D) (k : Nat) : St := { env := decE0 b, H := decH v (.own 5 g 0 ds.length) C k ++ [.gone, .arr g 2 false (encs ds)] }
def decD (c : CV) : D := ((at_ c.l 0).n, (at_ c.l 1).n)

theorem dl0_end (b : List UInt8) (v : CV) (C : List CV) (hC : C.length = 0) (h : True) : RunL P G none 0 (loopAt P 20 0) (decSt0 b v C) (AEx.exit 0) (St.mk (slots 104 [(0, byt b), (2, AV.ptr 0 0), (3, int 0), (5, AV.ptr 2 0), (6, AV.fn (Fn.func 49) [AV.ptr 2 0] []), (7, AV.fn (Fn.func 50) [AV.ptr 2 0] [])]) (decH v nilS C 0) []) := by
  have _ := h
  exact loop_exit [kv 45 (show Am.Sub (int (↑(List.length (encL (List.drop 0 C))) : Int)) (int (↑(List.length C - 0) : Int)) from (Sub.of_eq (by simp only [Go.Cdc.encL_length, List.length_drop]))), kf (show decide ((↑(List.length C - 0) : Int) > (0 : Int)) = false from (decide_eq_false (by omega)))] (others 104 [0, 2, 3, 5, 6, 7]) 4 (by kernel_rfl)

theorem dl1_end (b : List UInt8) (v : CV) (C : List CV) (g : Nat) (ds : List D) (k : Nat) (hC : C.length ≤ k) (h : True) : RunL P G none 0 (loopAt P 20 0) (decSt1 b v C g ds k) (AEx.exit 0) (St.mk (slots 104 [(0, byt b), (2, AV.ptr 0 0), (3, int 0), (5, AV.ptr 2 0), (6, AV.fn (Fn.func 49) [AV.ptr 2 0] []), (7, AV.fn (Fn.func 50) [AV.ptr 2 0] [])]) (decH v (AV.own 5 g 0 (List.length ds)) C k ++ [AObj.gone, AObj.arr g 2 false (encs ds)]) []) := by
  have _ := h
  exact loop_exit [kv 45 (show Am.Sub (int (↑(List.length (encL (List.drop k C))) : Int)) (int (↑(List.length C - k) : Int)) from (Sub.of_eq (by simp only [Go.Cdc.encL_length, List.length_drop]))), kf (show decide ((↑(List.length C - k) : Int) > (0 : Int)) = false from (decide_eq_false (by omega)))] (others 104 [0, 2, 3, 5, 6, 7]) 6 (by kernel_rfl)

theorem dl0_w (b : List UInt8) (v : CV) (C : List CV) (hC : 0 < C.length) (hl : C.length ≤ 1000000000) (hc : (at_ C 0).l.length ≤ 1000000000) (ex : AEx) (s' : St) (h : RunL P G none 0 (loopAt P 20 0) (St.mk (slots 104 [(0, AV.sl 1 false (bys b)), (2, AV.ptr 0 0), (3, int 0), (5, AV.ptr 2 0), (6, AV.fn (Fn.func 49) [AV.ptr 2 0] []), (7, AV.fn (Fn.func 50) [AV.ptr 2 0] []), (8, AV.ptr 3 0)]) [AObj.box [int (CV.n (at_ (CV.l v) 0)), int (CV.n (at_ (CV.l v) 1)), int (CV.n (at_ (CV.l v) 2)), AV.own 5 0 0 1, int 0, str (ByteArray.mk #[]), int 0, int 0, int 0, int 0, int 0, int 0, int 0, str (ByteArray.mk #[]), str (ByteArray.mk #[]), int 0, Am.bool false], AObj.box [int (CV.k v), int (CV.n v), str (CV.s v), AV.sl 4 false (encL (CV.l v))], AObj.box [AV.sl 4 false (encL (List.drop 4 (CV.l v)))], AObj.box [AV.sl 4 false (encL (List.drop 1 C))], AObj.box [AV.sl 4 false (encL (List.drop 2 (CV.l (at_ C 0))))], AObj.arr 0 2 false [[int (CV.n (at_ (CV.l (at_ C 0)) 0)), int (CV.n (at_ (CV.l (at_ C 0)) 1))]]] []) ex s') : RunL P G none 0 (loopAt P 20 0) (decSt0 b v C) ex s' := by
  exact loop_next [kv 45 (show Am.Sub (int (↑(List.length (encL (List.drop 0 C))) : Int)) (int (↑(List.length C - 0) : Int)) from (Sub.of_eq (by simp only [Go.Cdc.encL_length, List.length_drop]))), kt (show decide ((↑(List.length C - 0) : Int) > (0 : Int)) = true from (decide_eq_true (by omega))), kc [3] (@Go.Ops.lst_i (C) (0) (by omega)), kc [4] (@Go.Ops.num0_c (CV.l (at_ C 0)) (by omega)), kc [4] (@Go.Ops.num_i (CV.l (at_ C 0)) (1) (by omega)), kp (show [[int (CV.n (at_ (CV.l (at_ C 0)) 0)), int (CV.n (at_ (CV.l (at_ C 0)) 1))]] ≠ [] from (by simp)), kp (show 16 ≤ 140737488355328 from (by omega))] (others 104 [0, 2, 3, 5, 6, 7, 8]) 6 h (by kernel_rfl)

theorem dl1_w (b : List UInt8) (v : CV) (C : List CV) (g : Nat) (ds : List D) (k : Nat) (hC : k < C.length) (hl : C.length ≤ 1000000000) (hd : ds.length ≤ 1000000000) (hc : (at_ C k).l.length ≤ 1000000000) (ex : AEx) (s' : St) (h : ((∀ (x : List AV), x ∈ encs ds ++ chunks (TypeInfo.size (Tables.types (Program.toTables P))[23]) 1 (splice (zerosA (List.map AV.lit (Array.toList (Value.cells (Value.agg #[Value.int IntKind.i64 0, Value.int IntKind.i64 0])))) (1 * TypeInfo.size (Tables.types (Program.toTables P))[23])) (0 * TypeInfo.size (Tables.types (Program.toTables P))[23]) (splice (splice (List.map AV.lit (Array.toList (Value.cells (Value.agg #[Value.int IntKind.i64 0, Value.int IntKind.i64 0])))) 0 [int (CV.n (at_ (CV.l (at_ C k)) 0))]) 1 [int (CV.n (at_ (CV.l (at_ C k)) 1))])) → AV.idsInL [] x = true) ∧ RunL P G none 0 (loopAt P 20 0) (St.mk (slots 104 [(0, AV.sl 1 false (bys b)), (2, AV.ptr 0 0), (3, int 0), (5, AV.ptr 2 0), (6, AV.fn (Fn.func 49) [AV.ptr 2 0] []), (7, AV.fn (Fn.func 50) [AV.ptr 2 0] []), (8, AV.ptr 3 0)]) [AObj.box [int (CV.n (at_ (CV.l v) 0)), int (CV.n (at_ (CV.l v) 1)), int (CV.n (at_ (CV.l v) 2)), AV.own 5 (g + 1) 0 (List.length ds + 1), int 0, str (ByteArray.mk #[]), int 0, int 0, int 0, int 0, int 0, int 0, int 0, str (ByteArray.mk #[]), str (ByteArray.mk #[]), int 0, Am.bool false], AObj.box [int (CV.k v), int (CV.n v), str (CV.s v), AV.sl 4 false (encL (CV.l v))], AObj.box [AV.sl 4 false (encL (List.drop 4 (CV.l v)))], AObj.box [AV.sl 4 false (encL (List.drop (k + 1) C))], AObj.gone, AObj.arr (g + 1) 2 false (encs ds ++ [[int (CV.n (at_ (CV.l (at_ C k)) 0)), int (CV.n (at_ (CV.l (at_ C k)) 1))]])] []) ex s')) : RunL P G none 0 (loopAt P 20 0) (decSt1 b v C g ds k) ex s' := by
  obtain ⟨o2, h⟩ := h
  exact loop_next [kv 45 (show Am.Sub (int (↑(List.length (encL (List.drop k C))) : Int)) (int (↑(List.length C - k) : Int)) from (Sub.of_eq (by simp only [Go.Cdc.encL_length, List.length_drop]))), kt (show decide ((↑(List.length C - k) : Int) > (0 : Int)) = true from (decide_eq_true (by omega))), kc [3] (@Go.Ops.lst_i (C) (k) (by omega)), kc [6] (@Go.Ops.num0_c (CV.l (at_ C k)) (by omega)), kc [6] (@Go.Ops.num_i (CV.l (at_ C k)) (1) (by omega)), kp (show g = g from (rfl)), kp (show List.length ds = List.length (encs ds) from ((Go.Vec.encs_length _).symm)), kp (show (List.length ds + 1) * 16 ≤ 140737488355328 from (by omega)), kp o2] (others 104 [0, 2, 3, 5, 6, 7, 8]) 6 h (by kernel_rfl)

abbrev decX (b : List UInt8) : List AV := slots 104 [(0, byt b), (2, .ptr 0 0), (3, int 0), (5, .ptr 2 0), (6, .fn (.func 49) [.ptr 2 0] []), (7, .fn (.func 50) [.ptr 2 0] [])]
theorem decD_cons {C : List CV} {k : Nat} (h : k < C.length) : (C.take (k + 1)).map decD = (C.take k).map decD ++ [decD (at_ C k)] := by
  have e : at_ C k = C[k] := by unfold at_; rw [List.drop_eq_getElem_cons h]; rfl
  rw [List.take_add_one, List.getElem?_eq_getElem h, List.map_append, e]; rfl
theorem dl1_loop (b : List UInt8) (v : CV) (C : List CV) (hl : C.length ≤ 1000000000) (hc : ∀ k, (at_ C k).l.length ≤ 1000000000) : ∀ (m k g : Nat), C.length - k = m → k ≤ C.length →
    ∃ g' k', RunL P G none 0 (loopAt P 20 0) (decSt1 b v C g ((C.take k).map decD) k) (.exit 0) { env := decX b, H := decH v (.own 5 g' 0 (C.map decD).length) C k' ++ [.gone, .arr g' 2 false (encs (C.map decD))] } := by
  intro m
  induction m with
  | zero =>
    intro k g hm hk
    have e : C.take k = C := List.take_of_length_le (by omega)
    rw [e]
    exact ⟨g, k, dl1_end b v C g _ k (by omega) trivial⟩
  | succ m ih =>
    intro k g hm hk
    have hlt : k < C.length := by omega
    obtain ⟨g', k', h⟩ := ih (k + 1) (g + 1) (by omega) (by omega)
    refine ⟨g', k', dl1_w b v C g _ k hlt hl (by simp; omega) (hc k) _ _ ⟨fun x hx => ?_, ?_⟩⟩
    · rcases List.mem_append.1 hx with hx | hx
      · exact encs_ids _ x hx
      · have : x = Vec.enc (decD (at_ C k)) := List.mem_singleton.1 hx
        subst this; rfl
    · rw [decD_cons hlt] at h
      unfold decSt1 at h
      rw [← encs_append, List.length_append] at h
      exact h
/-- Behind the loop: the context, as data. -/
def decT (v : CV) (ds : List D) : List AObj := [.box (rcells (at_ v.l 0).n (at_ v.l 1).n (at_ v.l 2).n (vec ds)), .box (Cdc.enc v), .box [.sl 4 false (encL (v.l.drop 4))], .gone]
theorem dl_c (b : List UInt8) (v : CV) (C : List CV) (hl : C.length ≤ 1000000000) (hc : ∀ k, (at_ C k).l.length ≤ 1000000000) :
    RunL P G none 0 (loopAt P 20 0) (decSt0 b v C) (.exit 0) { env := decX b, H := decT v (C.map decD) } ∨
    RunL P G none 0 (loopAt P 20 0) (decSt0 b v C) (.exit 0) { env := decX b, H := decT v (C.map decD) ++ [.gone, .gone] } := by
  by_cases h0 : C.length = 0
  · have e : C = [] := List.eq_nil_of_length_eq_zero h0
    refine .inl (RunL.postH (dl0_end b v C h0 trivial) ⟨.inr ⟨rfl, fun j hj => ?_⟩, .inl rfl, .inl rfl, .inr trivial, trivial⟩)
    subst e
    match j, hj with
    | 3, _ => exact Sub.nil 2
    | 0, _ | 1, _ | 2, _ | 4, _ | 5, _ | 6, _ | 7, _ | 8, _ | 9, _ | 10, _ | 11, _ | 12, _ | 13, _ | 14, _ | 15, _ | 16, _ => exact Sub.refl _
    | j + 17, h => exact absurd h (by simp [rcells])
  · have hlt : 0 < C.length := by omega
    obtain ⟨g', k', h⟩ := dl1_loop b v C hl hc (C.length - 1) 1 0 rfl (by omega)
    have h1 : RunL P G none 0 (loopAt P 20 0) (decSt0 b v C) (.exit 0) { env := decX b, H := decH v (.own 5 g' 0 (C.map decD).length) C k' ++ [.gone, .arr g' 2 false (encs (C.map decD))] } := by
      refine dl0_w b v C hlt hl (hc 0) _ _ ?_
      have e : (C.take 1).map decD = [decD (at_ C 0)] := by
        have := decD_cons hlt
        simpa using this
      rw [e] at h
      exact RunL.preH h ⟨.inl rfl, .inl rfl, .inl rfl, .inl rfl, .inr trivial, .inl rfl, trivial⟩
    have ha : evalFrz (decH v (.own 5 g' 0 (C.map decD).length) C k' ++ [.gone, .arr g' 2 false (encs (C.map decD))]) (.own 5 g' 0 (C.map decD).length) (encs (C.map decD)) =
        some (.sl 2 false (encs (C.map decD)), decH v (.own 5 g' 0 (C.map decD).length) C k' ++ [.gone, .arr g' 2 true (encs (C.map decD))],
          [g' = g', List.take (C.map decD).length (List.drop 0 (encs (C.map decD))) = encs (C.map decD), (encs (C.map decD)).length = (C.map decD).length, ∀ c ∈ encs (C.map decD), c.all AV.pureB = true]) := rfl
    have h2 := RunL.frzBox (b := 0) (j := 3) (cells := rcells (at_ v.l 0).n (at_ v.l 1).n (at_ v.l 2).n (.own 5 g' 0 (C.map decD).length)) h1 rfl rfl rfl ha ⟨rfl, encs_all _, encs_length _, encs_pure _, trivial⟩
    exact .inr (RunL.postH h2 ⟨.inl rfl, .inl rfl, .inl rfl, .inr trivial, .inr trivial, .inr trivial, trivial⟩)

/-- The operation of a list of values, whatever these are. -/
def decO (L : List CV) : OP := ⟨(at_ L 0).n, (at_ L 1).n, (at_ L 2).n, (at_ L 3).l.map decD, (at_ (at_ L 4).l 0).n, (at_ (at_ L 4).l 1).s, (at_ L 5).n, (at_ (at_ L 6).l 0).n, (at_ (at_ L 6).l 1).n, (at_ (at_ L 6).l 2).n,
  (at_ (at_ L 7).l 0).n, (at_ (at_ L 7).l 1).n, (at_ (at_ L 7).l 2).n, (at_ L 8).s, (at_ L 9).s, (at_ L 10).n, (at_ L 11).n == 1⟩

theorem dec_w0 (b : List UInt8) (v : CV) (e : Int) (c : List UInt8) (hl : v.l.length ≤ 1000000000) (hl3 : (at_ v.l 3).l.length ≤ 1000000000) (hl4 : (at_ v.l 4).l.length ≤ 1000000000) (hl6 : (at_ v.l 6).l.length ≤ 1000000000) (hl7 : (at_ v.l 7).l.length ≤ 1000000000) (hd : CallC P G 22 [byt b] [] (.ret (.tup [val v, int 0])) []) (hL : RunL P G none 0 (loopAt P 20 0) (decSt0 b v (at_ v.l 3).l) (.exit 0) { env := decX b, H := decT v ((at_ v.l 3).l.map decD) }) (hE : CallC P G 18 [op (decO v.l)] [] (.ret (.tup [byt c, int e])) []) (r : AV) (h : (((e = (0 : Int)) → (((b = c) → Sub (AV.tup [AV.agg [int (CV.n (at_ (CV.l v) 0)), int (CV.n (at_ (CV.l v) 1)), int (CV.n (at_ (CV.l v) 2)), AV.sl 2 false (encs (List.map decD (CV.l (at_ (CV.l v) 3)))), int (CV.n (at_ (CV.l (at_ (CV.l v) 4)) 0)), str (CV.s (at_ (CV.l (at_ (CV.l v) 4)) 1)), int (CV.n (at_ (CV.l v) 5)), int (CV.n (at_ (CV.l (at_ (CV.l v) 6)) 0)), int (CV.n (at_ (CV.l (at_ (CV.l v) 6)) 1)), int (CV.n (at_ (CV.l (at_ (CV.l v) 6)) 2)), int (CV.n (at_ (CV.l (at_ (CV.l v) 7)) 0)), int (CV.n (at_ (CV.l (at_ (CV.l v) 7)) 1)), int (CV.n (at_ (CV.l (at_ (CV.l v) 7)) 2)), str (CV.s (at_ (CV.l v) 8)), str (CV.s (at_ (CV.l v) 9)), int (CV.n (at_ (CV.l v) 10)), Am.bool (CV.n (at_ (CV.l v) 11) == 1)], int 0]) (r)) ∧ ((¬b = c) → Sub (AV.tup [AV.agg [int 0, int 0, int 0, nilS, int 0, str (ByteArray.mk #[]), int 0, int 0, int 0, int 0, int 0, int 0, int 0, str (ByteArray.mk #[]), str (ByteArray.mk #[]), int 0, Am.bool false], int 170]) (r)))) ∧ ((¬e = (0 : Int)) → Sub (AV.tup [AV.agg [int 0, int 0, int 0, nilS, int 0, str (ByteArray.mk #[]), int 0, int 0, int 0, int 0, int 0, int 0, int 0, str (ByteArray.mk #[]), str (ByteArray.mk #[]), int 0, Am.bool false], int 170]) (r)))) : CallC P G 20 [byt b] [] (AOut.ret r) [] := by
  have hz0 := (@hd )
  have hz1 := (@Go.Ops.num0_c (CV.l v) (by omega))
  have hz2 := (@Go.Ops.num_i (CV.l v) (1) (by omega))
  have hz3 := (@Go.Ops.num_i (CV.l v) (2) (by omega))
  have hz4 := (@Go.Ops.lst_i (CV.l v) (3) (by omega))
  have hz5 := (@hL )
  have hz6 := (@Go.Ops.lst_i (CV.l v) (4) (by omega))
  have hz7 := (@Go.Ops.num0_c (CV.l (at_ (CV.l v) 4)) (by omega))
  have hz8 := (@Go.Ops.txt_i (CV.l (at_ (CV.l v) 4)) (1) (by omega))
  have hz9 := (@Go.Ops.num_i (CV.l v) (5) (by omega))
  have hz10 := (@Go.Ops.id_i (CV.l v) (6) (by omega) (by omega))
  have hz11 := (@Go.Ops.id_i (CV.l v) (7) (by omega) (by omega))
  have hz12 := (@Go.Ops.txt_i (CV.l v) (8) (by omega))
  have hz13 := (@Go.Ops.txt_i (CV.l v) (9) (by omega))
  have hz14 := (@Go.Ops.num_i (CV.l v) (10) (by omega))
  have hz15 := (@Go.Ops.num_i (CV.l v) (11) (by omega))
  have hz16 := (@hE )
  have hz18 := (@Go.Ops.bEq_c (b) (c))
  by_cases c1 : (e = (0 : Int))
  · have h := h.1 c1
    have hz17 : (e != 0) = false := (congrArg Bool.not (beq_iff_eq.2 c1))
    by_cases c2 : (b = c)
    · have h := h.1 c2
      have e1 := h
      exact CallC.out ((show CallC P G 20 [byt b] [] (AOut.ret (AV.tup [AV.agg [int (CV.n (at_ (CV.l v) 0)), int (CV.n (at_ (CV.l v) 1)), int (CV.n (at_ (CV.l v) 2)), AV.sl 2 false (encs (List.map decD (CV.l (at_ (CV.l v) 3)))), int (CV.n (at_ (CV.l (at_ (CV.l v) 4)) 0)), str (CV.s (at_ (CV.l (at_ (CV.l v) 4)) 1)), int (CV.n (at_ (CV.l v) 5)), int (CV.n (at_ (CV.l (at_ (CV.l v) 6)) 0)), int (CV.n (at_ (CV.l (at_ (CV.l v) 6)) 1)), int (CV.n (at_ (CV.l (at_ (CV.l v) 6)) 2)), int (CV.n (at_ (CV.l (at_ (CV.l v) 7)) 0)), int (CV.n (at_ (CV.l (at_ (CV.l v) 7)) 1)), int (CV.n (at_ (CV.l (at_ (CV.l v) 7)) 2)), str (CV.s (at_ (CV.l v) 8)), str (CV.s (at_ (CV.l v) 9)), int (CV.n (at_ (CV.l v) 10)), Am.bool (CV.n (at_ (CV.l v) 11) == 1)], int 0])) [] from callC_of [kc [] hz0, kf (Eq.refl false), kc [2] hz1, kc [2] hz2, kc [2] hz3, kc [2] hz4, kl [1, 4, 9, 10, 11, 12, 13, 14, 15, 16, 17, 18, 19, 20, 21, 22, 23, 24, 25, 26, 27, 28, 29, 30, 31, 32, 33, 34, 35, 36, 37, 38, 39, 40, 41, 42, 43, 44, 45, 46, 47, 48, 49, 50, 51, 52, 53, 54, 55, 56, 57, 58, 59, 60, 61, 62, 63, 64, 65, 66, 67, 68, 69, 70, 71, 72, 73, 74, 75, 76, 77, 78, 79, 80, 81, 82, 83, 84, 85, 86, 87, 88, 89, 90, 91, 92, 93, 94, 95, 96, 97, 98, 99, 100, 101, 102, 103] 4 hz5, kc [2] hz6, kc [4] hz7, kc [4] hz8, kc [2] hz9, kc [2] hz10, kc [2] hz11, kc [2] hz12, kc [2] hz13, kc [2] hz14, kc [2] hz15, kc [] hz16, kf hz17, kc [] hz18, kf (show (!decide (b = c)) = false from (congrArg Bool.not (decide_eq_true c2)))] (by kernel_rfl))) e1
    · have h := h.2 c2
      have e1 := h
      exact CallC.out ((show CallC P G 20 [byt b] [] (AOut.ret (AV.tup [AV.agg [int 0, int 0, int 0, nilS, int 0, str (ByteArray.mk #[]), int 0, int 0, int 0, int 0, int 0, int 0, int 0, str (ByteArray.mk #[]), str (ByteArray.mk #[]), int 0, Am.bool false], int 170])) [] from callC_of [kc [] hz0, kf (Eq.refl false), kc [2] hz1, kc [2] hz2, kc [2] hz3, kc [2] hz4, kl [1, 4, 9, 10, 11, 12, 13, 14, 15, 16, 17, 18, 19, 20, 21, 22, 23, 24, 25, 26, 27, 28, 29, 30, 31, 32, 33, 34, 35, 36, 37, 38, 39, 40, 41, 42, 43, 44, 45, 46, 47, 48, 49, 50, 51, 52, 53, 54, 55, 56, 57, 58, 59, 60, 61, 62, 63, 64, 65, 66, 67, 68, 69, 70, 71, 72, 73, 74, 75, 76, 77, 78, 79, 80, 81, 82, 83, 84, 85, 86, 87, 88, 89, 90, 91, 92, 93, 94, 95, 96, 97, 98, 99, 100, 101, 102, 103] 4 hz5, kc [2] hz6, kc [4] hz7, kc [4] hz8, kc [2] hz9, kc [2] hz10, kc [2] hz11, kc [2] hz12, kc [2] hz13, kc [2] hz14, kc [2] hz15, kc [] hz16, kf hz17, kc [] hz18, kt (show (!decide (b = c)) = true from (congrArg Bool.not (decide_eq_false c2)))] (by kernel_rfl))) e1
  · have h := h.2 c1
    have e1 := h
    exact CallC.out ((show CallC P G 20 [byt b] [] (AOut.ret (AV.tup [AV.agg [int 0, int 0, int 0, nilS, int 0, str (ByteArray.mk #[]), int 0, int 0, int 0, int 0, int 0, int 0, int 0, str (ByteArray.mk #[]), str (ByteArray.mk #[]), int 0, Am.bool false], int 170])) [] from callC_of [kc [] hz0, kf (Eq.refl false), kc [2] hz1, kc [2] hz2, kc [2] hz3, kc [2] hz4, kl [1, 4, 9, 10, 11, 12, 13, 14, 15, 16, 17, 18, 19, 20, 21, 22, 23, 24, 25, 26, 27, 28, 29, 30, 31, 32, 33, 34, 35, 36, 37, 38, 39, 40, 41, 42, 43, 44, 45, 46, 47, 48, 49, 50, 51, 52, 53, 54, 55, 56, 57, 58, 59, 60, 61, 62, 63, 64, 65, 66, 67, 68, 69, 70, 71, 72, 73, 74, 75, 76, 77, 78, 79, 80, 81, 82, 83, 84, 85, 86, 87, 88, 89, 90, 91, 92, 93, 94, 95, 96, 97, 98, 99, 100, 101, 102, 103] 4 hz5, kc [2] hz6, kc [4] hz7, kc [4] hz8, kc [2] hz9, kc [2] hz10, kc [2] hz11, kc [2] hz12, kc [2] hz13, kc [2] hz14, kc [2] hz15, kc [] hz16, kt (show (e != 0) = true from (congrArg Bool.not (beq_eq_false_iff_ne.2 c1))), kt (Eq.refl true)] (by kernel_rfl))) e1

theorem dec_w1 (b : List UInt8) (v : CV) (e : Int) (c : List UInt8) (hl : v.l.length ≤ 1000000000) (hl3 : (at_ v.l 3).l.length ≤ 1000000000) (hl4 : (at_ v.l 4).l.length ≤ 1000000000) (hl6 : (at_ v.l 6).l.length ≤ 1000000000) (hl7 : (at_ v.l 7).l.length ≤ 1000000000) (hd : CallC P G 22 [byt b] [] (.ret (.tup [val v, int 0])) []) (hL : RunL P G none 0 (loopAt P 20 0) (decSt0 b v (at_ v.l 3).l) (.exit 0) { env := decX b, H := decT v ((at_ v.l 3).l.map decD) ++ [.gone, .gone] }) (hE : CallC P G 18 [op (decO v.l)] [] (.ret (.tup [byt c, int e])) []) (r : AV) (h : (((e = (0 : Int)) → (((b = c) → Sub (AV.tup [AV.agg [int (CV.n (at_ (CV.l v) 0)), int (CV.n (at_ (CV.l v) 1)), int (CV.n (at_ (CV.l v) 2)), AV.sl 2 false (encs (List.map decD (CV.l (at_ (CV.l v) 3)))), int (CV.n (at_ (CV.l (at_ (CV.l v) 4)) 0)), str (CV.s (at_ (CV.l (at_ (CV.l v) 4)) 1)), int (CV.n (at_ (CV.l v) 5)), int (CV.n (at_ (CV.l (at_ (CV.l v) 6)) 0)), int (CV.n (at_ (CV.l (at_ (CV.l v) 6)) 1)), int (CV.n (at_ (CV.l (at_ (CV.l v) 6)) 2)), int (CV.n (at_ (CV.l (at_ (CV.l v) 7)) 0)), int (CV.n (at_ (CV.l (at_ (CV.l v) 7)) 1)), int (CV.n (at_ (CV.l (at_ (CV.l v) 7)) 2)), str (CV.s (at_ (CV.l v) 8)), str (CV.s (at_ (CV.l v) 9)), int (CV.n (at_ (CV.l v) 10)), Am.bool (CV.n (at_ (CV.l v) 11) == 1)], int 0]) (r)) ∧ ((¬b = c) → Sub (AV.tup [AV.agg [int 0, int 0, int 0, nilS, int 0, str (ByteArray.mk #[]), int 0, int 0, int 0, int 0, int 0, int 0, int 0, str (ByteArray.mk #[]), str (ByteArray.mk #[]), int 0, Am.bool false], int 170]) (r)))) ∧ ((¬e = (0 : Int)) → Sub (AV.tup [AV.agg [int 0, int 0, int 0, nilS, int 0, str (ByteArray.mk #[]), int 0, int 0, int 0, int 0, int 0, int 0, int 0, str (ByteArray.mk #[]), str (ByteArray.mk #[]), int 0, Am.bool false], int 170]) (r)))) : CallC P G 20 [byt b] [] (AOut.ret r) [] := by
  have hz0 := (@hd )
  have hz1 := (@Go.Ops.num0_c (CV.l v) (by omega))
  have hz2 := (@Go.Ops.num_i (CV.l v) (1) (by omega))
  have hz3 := (@Go.Ops.num_i (CV.l v) (2) (by omega))
  have hz4 := (@Go.Ops.lst_i (CV.l v) (3) (by omega))
  have hz5 := (@hL )
  have hz6 := (@Go.Ops.lst_i (CV.l v) (4) (by omega))
  have hz7 := (@Go.Ops.num0_c (CV.l (at_ (CV.l v) 4)) (by omega))
  have hz8 := (@Go.Ops.txt_i (CV.l (at_ (CV.l v) 4)) (1) (by omega))
  have hz9 := (@Go.Ops.num_i (CV.l v) (5) (by omega))
  have hz10 := (@Go.Ops.id_i (CV.l v) (6) (by omega) (by omega))
  have hz11 := (@Go.Ops.id_i (CV.l v) (7) (by omega) (by omega))
  have hz12 := (@Go.Ops.txt_i (CV.l v) (8) (by omega))
  have hz13 := (@Go.Ops.txt_i (CV.l v) (9) (by omega))
  have hz14 := (@Go.Ops.num_i (CV.l v) (10) (by omega))
  have hz15 := (@Go.Ops.num_i (CV.l v) (11) (by omega))
  have hz16 := (@hE )
  have hz18 := (@Go.Ops.bEq_c (b) (c))
  by_cases c1 : (e = (0 : Int))
  · have h := h.1 c1
    have hz17 : (e != 0) = false := (congrArg Bool.not (beq_iff_eq.2 c1))
    by_cases c2 : (b = c)
    · have h := h.1 c2
      have e1 := h
      exact CallC.out ((show CallC P G 20 [byt b] [] (AOut.ret (AV.tup [AV.agg [int (CV.n (at_ (CV.l v) 0)), int (CV.n (at_ (CV.l v) 1)), int (CV.n (at_ (CV.l v) 2)), AV.sl 2 false (encs (List.map decD (CV.l (at_ (CV.l v) 3)))), int (CV.n (at_ (CV.l (at_ (CV.l v) 4)) 0)), str (CV.s (at_ (CV.l (at_ (CV.l v) 4)) 1)), int (CV.n (at_ (CV.l v) 5)), int (CV.n (at_ (CV.l (at_ (CV.l v) 6)) 0)), int (CV.n (at_ (CV.l (at_ (CV.l v) 6)) 1)), int (CV.n (at_ (CV.l (at_ (CV.l v) 6)) 2)), int (CV.n (at_ (CV.l (at_ (CV.l v) 7)) 0)), int (CV.n (at_ (CV.l (at_ (CV.l v) 7)) 1)), int (CV.n (at_ (CV.l (at_ (CV.l v) 7)) 2)), str (CV.s (at_ (CV.l v) 8)), str (CV.s (at_ (CV.l v) 9)), int (CV.n (at_ (CV.l v) 10)), Am.bool (CV.n (at_ (CV.l v) 11) == 1)], int 0])) [] from callC_of [kc [] hz0, kf (Eq.refl false), kc [2] hz1, kc [2] hz2, kc [2] hz3, kc [2] hz4, kl [1, 4, 9, 10, 11, 12, 13, 14, 15, 16, 17, 18, 19, 20, 21, 22, 23, 24, 25, 26, 27, 28, 29, 30, 31, 32, 33, 34, 35, 36, 37, 38, 39, 40, 41, 42, 43, 44, 45, 46, 47, 48, 49, 50, 51, 52, 53, 54, 55, 56, 57, 58, 59, 60, 61, 62, 63, 64, 65, 66, 67, 68, 69, 70, 71, 72, 73, 74, 75, 76, 77, 78, 79, 80, 81, 82, 83, 84, 85, 86, 87, 88, 89, 90, 91, 92, 93, 94, 95, 96, 97, 98, 99, 100, 101, 102, 103] 4 hz5, kc [2] hz6, kc [6] hz7, kc [6] hz8, kc [2] hz9, kc [2] hz10, kc [2] hz11, kc [2] hz12, kc [2] hz13, kc [2] hz14, kc [2] hz15, kc [] hz16, kf hz17, kc [] hz18, kf (show (!decide (b = c)) = false from (congrArg Bool.not (decide_eq_true c2)))] (by kernel_rfl))) e1
    · have h := h.2 c2
      have e1 := h
      exact CallC.out ((show CallC P G 20 [byt b] [] (AOut.ret (AV.tup [AV.agg [int 0, int 0, int 0, nilS, int 0, str (ByteArray.mk #[]), int 0, int 0, int 0, int 0, int 0, int 0, int 0, str (ByteArray.mk #[]), str (ByteArray.mk #[]), int 0, Am.bool false], int 170])) [] from callC_of [kc [] hz0, kf (Eq.refl false), kc [2] hz1, kc [2] hz2, kc [2] hz3, kc [2] hz4, kl [1, 4, 9, 10, 11, 12, 13, 14, 15, 16, 17, 18, 19, 20, 21, 22, 23, 24, 25, 26, 27, 28, 29, 30, 31, 32, 33, 34, 35, 36, 37, 38, 39, 40, 41, 42, 43, 44, 45, 46, 47, 48, 49, 50, 51, 52, 53, 54, 55, 56, 57, 58, 59, 60, 61, 62, 63, 64, 65, 66, 67, 68, 69, 70, 71, 72, 73, 74, 75, 76, 77, 78, 79, 80, 81, 82, 83, 84, 85, 86, 87, 88, 89, 90, 91, 92, 93, 94, 95, 96, 97, 98, 99, 100, 101, 102, 103] 4 hz5, kc [2] hz6, kc [6] hz7, kc [6] hz8, kc [2] hz9, kc [2] hz10, kc [2] hz11, kc [2] hz12, kc [2] hz13, kc [2] hz14, kc [2] hz15, kc [] hz16, kf hz17, kc [] hz18, kt (show (!decide (b = c)) = true from (congrArg Bool.not (decide_eq_false c2)))] (by kernel_rfl))) e1
  · have h := h.2 c1
    have e1 := h
    exact CallC.out ((show CallC P G 20 [byt b] [] (AOut.ret (AV.tup [AV.agg [int 0, int 0, int 0, nilS, int 0, str (ByteArray.mk #[]), int 0, int 0, int 0, int 0, int 0, int 0, int 0, str (ByteArray.mk #[]), str (ByteArray.mk #[]), int 0, Am.bool false], int 170])) [] from callC_of [kc [] hz0, kf (Eq.refl false), kc [2] hz1, kc [2] hz2, kc [2] hz3, kc [2] hz4, kl [1, 4, 9, 10, 11, 12, 13, 14, 15, 16, 17, 18, 19, 20, 21, 22, 23, 24, 25, 26, 27, 28, 29, 30, 31, 32, 33, 34, 35, 36, 37, 38, 39, 40, 41, 42, 43, 44, 45, 46, 47, 48, 49, 50, 51, 52, 53, 54, 55, 56, 57, 58, 59, 60, 61, 62, 63, 64, 65, 66, 67, 68, 69, 70, 71, 72, 73, 74, 75, 76, 77, 78, 79, 80, 81, 82, 83, 84, 85, 86, 87, 88, 89, 90, 91, 92, 93, 94, 95, 96, 97, 98, 99, 100, 101, 102, 103] 4 hz5, kc [2] hz6, kc [6] hz7, kc [6] hz8, kc [2] hz9, kc [2] hz10, kc [2] hz11, kc [2] hz12, kc [2] hz13, kc [2] hz14, kc [2] hz15, kc [] hz16, kt (show (e != 0) = true from (congrArg Bool.not (beq_eq_false_iff_ne.2 c1))), kt (Eq.refl true)] (by kernel_rfl))) e1

/-- What Decode answers. -/
def decR (b : List UInt8) (v : CV) (e : Int) (c : List UInt8) : OP × Int := if e = 0 ∧ b = c then (decO v.l, 0) else (zop, 170)
theorem zopS : Sub (AV.tup [AV.agg [int 0, int 0, int 0, nilS, int 0, str ⟨#[]⟩, int 0, int 0, int 0, int 0, int 0, int 0, int 0, str ⟨#[]⟩, str ⟨#[]⟩, int 0, Am.bool false], int 170]) (AV.tup [op zop, int 170]) :=
  Sub.tups ⟨Sub.aggs ⟨Sub.refl _, Sub.refl _, Sub.refl _, Sub.nil 2, Sub.refl _, Sub.refl _, Sub.refl _, Sub.refl _, Sub.refl _, Sub.refl _, Sub.refl _, Sub.refl _, Sub.refl _, Sub.refl _, Sub.refl _, Sub.refl _, Sub.refl _, trivial⟩, Sub.refl _, trivial⟩
theorem dec_c (b : List UInt8) (v : CV) (e : Int) (c : List UInt8) (hl : v.l.length ≤ 1000000000) (hl2 : ∀ k, (at_ v.l k).l.length ≤ 1000000000) (hl3 : ∀ k, (at_ (at_ v.l 3).l k).l.length ≤ 1000000000) (hd : CallC P G 22 [byt b] [] (.ret (.tup [val v, int 0])) [])
    (hE : CallC P G 18 [op (decO v.l)] [] (.ret (.tup [byt c, int e])) []) : CallC P G 20 [byt b] [] (.ret (.tup [op (decR b v e c).1, int (decR b v e c).2])) [] := by
  have fin : (((e = (0 : Int)) → (((b = c) → Sub (AV.tup [op (decO v.l), int 0]) (AV.tup [op (decR b v e c).1, int (decR b v e c).2])) ∧ ((¬b = c) → Sub (AV.tup [AV.agg [int 0, int 0, int 0, nilS, int 0, str ⟨#[]⟩, int 0, int 0, int 0, int 0, int 0, int 0, int 0, str ⟨#[]⟩, str ⟨#[]⟩, int 0, Am.bool false], int 170]) (AV.tup [op (decR b v e c).1, int (decR b v e c).2])))) ∧
      ((¬e = (0 : Int)) → Sub (AV.tup [AV.agg [int 0, int 0, int 0, nilS, int 0, str ⟨#[]⟩, int 0, int 0, int 0, int 0, int 0, int 0, int 0, str ⟨#[]⟩, str ⟨#[]⟩, int 0, Am.bool false], int 170]) (AV.tup [op (decR b v e c).1, int (decR b v e c).2]))) := by
    unfold decR
    refine ⟨fun h1 => ⟨fun h2 => ?_, fun h2 => ?_⟩, fun h1 => ?_⟩
    · rw [if_pos ⟨h1, h2⟩]; exact Sub.refl _
    · rw [if_neg (fun q => h2 q.2)]; exact zopS
    · rw [if_neg (fun q => h1 q.1)]; exact zopS
  rcases dl_c b v (at_ v.l 3).l (hl2 3) hl3 with h | h
  · exact dec_w0 b v e c hl (hl2 3) (hl2 4) (hl2 6) (hl2 7) hd h hE _ fin
  · exact dec_w1 b v e c hl (hl2 3) (hl2 4) (hl2 6) (hl2 7) hd h hE _ fin

end Go.Ops

/- VECTOR, 2: what the reference's Join, Meet, Compare and With do. -/
namespace Go.Vec
set_option maxRecDepth 100000
set_option linter.unusedSimpArgs false
set_option linter.unusedVariables false
open Go Go.Am Go.Proofs Go.Seat

def check2E (a b : List D) : Int := if checkE a = 0 then checkE b else checkE a

theorem check2_w (a b : List D) (ha : a.length ≤ 1000000000) (hb : b.length ≤ 1000000000) (h : (((checkE a = (0 : Int)) → (checkE b : Int) = (check2E a b)) ∧ ((¬checkE a = (0 : Int)) → (checkE a : Int) = (check2E a b)))) : CallC P G 81 [vec a, vec b] [] (AOut.ret (int (check2E a b))) [] := by
  have hz0 := (@Go.Vec.check_c (a) (by omega))
  by_cases c1 : (checkE a = (0 : Int))
  · have h := h.1 c1
    have e1 := h
    exact callC_out (Sub.int_eq e1) [kc [] hz0, kf (show (checkE a != 0) = false from (congrArg Bool.not (beq_iff_eq.2 c1))), kc [] (@Go.Vec.check_c (b) (by omega))] (by kernel_rfl)
  · have h := h.2 c1
    have e1 := h
    exact callC_out (Sub.int_eq e1) [kc [] hz0, kt (show (checkE a != 0) = true from (congrArg Bool.not (beq_eq_false_iff_ne.2 c1)))] (by kernel_rfl)


theorem check2_c (a b : List D) (ha : a.length ≤ 1000000000) (hb : b.length ≤ 1000000000) : CallC P G 81 [vec a, vec b] [] (.ret (int (check2E a b))) [] :=
  check2_w a b ha hb (by unfold check2E; exact ⟨fun h => by rw [if_pos h], fun h => by rw [if_neg h]⟩)

/-! Most -/
def mostSt (a b : List D) (k : Nat) : St := { env := slots 25 [(0, vec a), (1, vec b), (4, bool false), (5, int k)], H := [] }

def mostB (a b : List D) : Bool := a.all fun d => decide (d.2 ≤ atV d.1 b)
/-! devices -/
def devSt0 (a b : List D) (i k : Nat) : St := { env := slots 74 [(0, vec a), (1, vec b), (4, nilS), (5, nilS), (6, int i), (7, int k)], H := [] }
def devSt1 (a b : List D) (i k g : Nat) (l : List Int) : St := { env := slots 74 [(0, vec a), (1, vec b), (4, nilS), (5, .own 0 g 0 l.length), (6, int i), (7, int k)], H := [.arr g 1 false (ints l)] }

/-- The devices of two lists, merged; n: at least so many as both have. -/
def devN : Nat → List D → List D → List Int
  | 0, _, _ => []
  | _ + 1, [], [] => []
  | n + 1, x :: a, [] => x.1 :: devN n a []
  | n + 1, [], y :: b => y.1 :: devN n [] b
  | n + 1, x :: a, y :: b => if y.1 < x.1 then y.1 :: devN n (x :: a) b else if x.1 < y.1 then x.1 :: devN n a (y :: b) else x.1 :: devN n a b
theorem devN_len : ∀ (n : Nat) (a b : List D), (devN n a b).length ≤ n
  | 0, _, _ => Nat.le_refl _
  | _ + 1, [], [] => Nat.zero_le _
  | n + 1, x :: a, [] => by simp only [devN, List.length_cons]; have := devN_len n a []; omega
  | n + 1, [], y :: b => by simp only [devN, List.length_cons]; have := devN_len n [] b; omega
  | n + 1, x :: a, y :: b => by
    have h1 := devN_len n (x :: a) b
    have h2 := devN_len n a (y :: b)
    have h3 := devN_len n a b
    simp only [devN]
    split
    · simp only [List.length_cons]; omega
    · split <;> (simp only [List.length_cons]; omega)
def devOut (g : Nat) (l : List Int) : St := { env := slots 74 [(5, .own 0 g 0 l.length)], H := [.arr g 1 false (ints l)] }

/-- What one round does to what is left. -/
def devStep (a b : List D) (i k : Nat) (d : Int) (i' k' : Nat) : Prop := i' ≤ a.length ∧ k' ≤ b.length ∧ (a.length - i') + (b.length - k') + 1 ≤ (a.length - i) + (b.length - k) ∧
  ∀ n, devN (n + 1) (a.drop i) (b.drop k) = d :: devN n (a.drop i') (b.drop k')

theorem dev_arms {a b : List D} {i k : Nat} (hi : i ≤ a.length) (hk : k ≤ b.length) :
    (∀ x y, a[i]? = some x → b[k]? = some y → x.1 = (if y.1 < x.1 then y.1 else x.1) → y.1 = (if y.1 < x.1 then y.1 else x.1) → devStep a b i k (if y.1 < x.1 then y.1 else x.1) (i + 1) (k + 1)) ∧
    (∀ x y, a[i]? = some x → b[k]? = some y → x.1 = (if y.1 < x.1 then y.1 else x.1) → ¬ y.1 = (if y.1 < x.1 then y.1 else x.1) → devStep a b i k (if y.1 < x.1 then y.1 else x.1) (i + 1) k) ∧
    (∀ x y, a[i]? = some x → b[k]? = some y → ¬ x.1 = (if y.1 < x.1 then y.1 else x.1) → devStep a b i k (if y.1 < x.1 then y.1 else x.1) i (k + 1)) ∧
    (∀ x, a[i]? = some x → b.length ≤ k → devStep a b i k x.1 (i + 1) k) ∧
    (∀ y, a.length ≤ i → b[k]? = some y → devStep a b i k y.1 i (k + 1)) := by
  have da : ∀ {x}, a[i]? = some x → i < a.length ∧ a.drop i = x :: a.drop (i + 1) := fun h => by
    obtain ⟨h1, h2⟩ := List.getElem?_eq_some_iff.1 h
    exact ⟨h1, by rw [List.drop_eq_getElem_cons h1, h2]⟩
  have db : ∀ {y}, b[k]? = some y → k < b.length ∧ b.drop k = y :: b.drop (k + 1) := fun h => by
    obtain ⟨h1, h2⟩ := List.getElem?_eq_some_iff.1 h
    exact ⟨h1, by rw [List.drop_eq_getElem_cons h1, h2]⟩
  refine ⟨fun x y hx hy h1 h2 => ?_, fun x y hx hy h1 h2 => ?_, fun x y hx hy h1 => ?_, fun x hx hb => ?_, fun y ha hy => ?_⟩
  · obtain ⟨l1, e1⟩ := da hx
    obtain ⟨l2, e2⟩ := db hy
    refine ⟨by omega, by omega, by omega, fun n => ?_⟩
    have : ¬ y.1 < x.1 := fun h => by rw [if_pos h] at h1; omega
    rw [if_neg this] at h2 ⊢
    rw [e1, e2]
    simp only [devN]
    rw [if_neg this, if_neg (by omega)]
  · obtain ⟨l1, e1⟩ := da hx
    obtain ⟨l2, e2⟩ := db hy
    refine ⟨by omega, by omega, by omega, fun n => ?_⟩
    have : ¬ y.1 < x.1 := fun h => by rw [if_pos h] at h1; omega
    rw [if_neg this] at h2 ⊢
    rw [e1, e2]
    simp only [devN]
    rw [if_neg this, if_pos (by omega)]
  · obtain ⟨l1, e1⟩ := da hx
    obtain ⟨l2, e2⟩ := db hy
    refine ⟨by omega, by omega, by omega, fun n => ?_⟩
    have : y.1 < x.1 := by
      by_cases h : y.1 < x.1
      · exact h
      · rw [if_neg h] at h1; exact absurd rfl h1
    rw [if_pos this]
    rw [e1, e2]
    simp only [devN]
    rw [if_pos this]
  · obtain ⟨l1, e1⟩ := da hx
    refine ⟨by omega, by omega, by omega, fun n => ?_⟩
    rw [e1, List.drop_of_length_le hb]
    simp only [devN]
  · obtain ⟨l1, e1⟩ := db hy
    refine ⟨by omega, by omega, by omega, fun n => ?_⟩
    rw [e1, List.drop_of_length_le ha]
    simp only [devN]

def devs (a b : List D) : List Int := devN (a.length + b.length) a b

end Go.Vec

/- VECTOR, 4: the program's merging: rounds over the pairs of two vectors. -/
namespace Go.Vec
set_option maxRecDepth 100000
set_option linter.unusedSimpArgs false
set_option linter.unusedVariables false
open Go Go.Am Go.Proofs Go.Seat

def gmax (x y : Int) : Int := if y > x then y else x
def gmin (x y : Int) : Int := if y < x then y else x
def rl (f : Nat) : AV := .lit (.func (.func f) #[] #[])

theorem gr_w (d x y : Int) (h : True) : CallC P G 125 [AV.agg [int d, int x, int y]] [] (AOut.ret (int (gmax x y))) [] := by
  have _ := h
  exact callC_of [] (by kernel_rfl)


theorem gr_c (d x y : Int) : CallC P G 125 [.agg [int d, int x, int y]] [] (.ret (int (gmax x y))) [] := gr_w d x y trivial

noncomputable def jrng : AObj := .rng .ready none (slots 35 [(3, .ptr 3 0), (6, .ptr 4 0)]) #[20] (asgAt P 59 0) (rbodyAt P 59 0)
noncomputable def q0 (f : Nat) (A B : List D) : List AObj := [jrng, .box [vec A], .box [vec B], .box [rl f], .box [nilS]]
noncomputable def q1 (f : Nat) (A B : List D) (g : Nat) (v : List D) : List AObj := [jrng, .box [vec A], .box [vec B], .box [rl f], .box [.own 7 g 0 v.length], .gone, .gone, .arr g 2 false (encs v)]

def Y0 (f : Nat) (tk : Int → Int → Int) (A B : List D) (d x y : Int) : Prop :=
  YieldC P G 0 [.agg [int d, int x, int y]] (q0 f A B ++ [.box [int d, int x, int y]]) true (if tk x y > 0 then q1 f A B 0 [(d, tk x y)] else q0 f A B ++ [.box [int d, int x, int y]])
def Y1 (f : Nat) (tk : Int → Int → Int) (A B v : List D) (g : Nat) (d x y : Int) : Prop :=
  YieldC P G 0 [.agg [int d, int x, int y]] (q1 f A B g v ++ [.box [int d, int x, int y]]) true (if tk x y > 0 then q1 f A B (g + 1) (v ++ [(d, tk x y)]) ++ [.box [int d, int x, int y]] else q1 f A B g v ++ [.box [int d, int x, int y]])

theorem gy0_w (A B : List D) (d x y : Int) (b : Bool) (H' : List AObj) (h : (((gmax x y > (0 : Int)) → (true = b) ∧ ([jrng, AObj.box [AV.sl 2 false (encs A)], AObj.box [AV.sl 2 false (encs B)], AObj.box [AV.lit (Value.func (Fn.func 125) { toList := [] } { toList := [] })], AObj.box [AV.own 7 0 0 1], AObj.box [int d, int x, int y], AObj.box [int d, int x, int y], AObj.arr 0 2 false (encs [(d, gmax x y)])] = H')) ∧ ((¬gmax x y > (0 : Int)) → (true = b) ∧ ([jrng, AObj.box [AV.sl 2 false (encs A)], AObj.box [AV.sl 2 false (encs B)], AObj.box [AV.lit (Value.func (Fn.func 125) { toList := [] } { toList := [] })], AObj.box [nilS], AObj.box [int d, int x, int y]] = H')))) : YieldC P G 0 [AV.agg [int d, int x, int y]] (q0 125 A B ++ [AObj.box [int d, int x, int y]]) b H' := by
  have hz0 := (@Go.Vec.gr_c (d) (x) (y))
  by_cases c1 : (gmax x y > (0 : Int))
  · have h := h.1 c1
    obtain ⟨e1, e2⟩ := h
    exact YieldC.to ((show YieldC P G 0 [AV.agg [int d, int x, int y]] (q0 125 A B ++ [AObj.box [int d, int x, int y]]) true [jrng, AObj.box [AV.sl 2 false (encs A)], AObj.box [AV.sl 2 false (encs B)], AObj.box [AV.lit (Value.func (Fn.func 125) { toList := [] } { toList := [] })], AObj.box [AV.own 7 0 0 1], AObj.box [int d, int x, int y], AObj.box [int d, int x, int y], AObj.arr 0 2 false (encs [(d, gmax x y)])] from yieldC_of (fun _ => [kc [] hz0, kt (decide_eq_true c1), kp (show [[int d, int (gmax x y)]] ≠ [] from (by simp)), kp (show 16 ≤ 140737488355328 from (by omega))]) (fun _ => by kernel_rfl))) e1 e2
  · have h := h.2 c1
    obtain ⟨e1, e2⟩ := h
    exact YieldC.to ((show YieldC P G 0 [AV.agg [int d, int x, int y]] (q0 125 A B ++ [AObj.box [int d, int x, int y]]) true [jrng, AObj.box [AV.sl 2 false (encs A)], AObj.box [AV.sl 2 false (encs B)], AObj.box [AV.lit (Value.func (Fn.func 125) { toList := [] } { toList := [] })], AObj.box [nilS], AObj.box [int d, int x, int y]] from yieldC_of (fun _ => [kc [] hz0, kf (decide_eq_false c1)]) (fun _ => by kernel_rfl))) e1 e2


theorem gy1_w (A B v : List D) (g : Nat) (d x y : Int) (b : Bool) (H' : List AObj) (hv : v.length ≤ 3000000000) (h : (((gmax x y > (0 : Int)) → (true = b) ∧ ([jrng, AObj.box [AV.sl 2 false (encs A)], AObj.box [AV.sl 2 false (encs B)], AObj.box [AV.lit (Value.func (Fn.func 125) { toList := [] } { toList := [] })], AObj.box [AV.own 7 (g + 1) 0 (List.length (v ++ [(d, gmax x y)]))], AObj.gone, AObj.gone, AObj.arr (g + 1) 2 false (encs (v ++ [(d, gmax x y)])), AObj.box [int d, int x, int y]] = H')) ∧ ((¬gmax x y > (0 : Int)) → (true = b) ∧ ([jrng, AObj.box [AV.sl 2 false (encs A)], AObj.box [AV.sl 2 false (encs B)], AObj.box [AV.lit (Value.func (Fn.func 125) { toList := [] } { toList := [] })], AObj.box [AV.own 7 g 0 (List.length v)], AObj.gone, AObj.gone, AObj.arr g 2 false (encs v), AObj.box [int d, int x, int y]] = H')))) : YieldC P G 0 [AV.agg [int d, int x, int y]] (q1 125 A B g v ++ [AObj.box [int d, int x, int y]]) b H' := by
  have hz0 := (@Go.Vec.gr_c (d) (x) (y))
  by_cases c1 : (gmax x y > (0 : Int))
  · have h := h.1 c1
    obtain ⟨e1, e2⟩ := h
    exact YieldC.to ((show YieldC P G 0 [AV.agg [int d, int x, int y]] (q1 125 A B g v ++ [AObj.box [int d, int x, int y]]) true [jrng, AObj.box [AV.sl 2 false (encs A)], AObj.box [AV.sl 2 false (encs B)], AObj.box [AV.lit (Value.func (Fn.func 125) { toList := [] } { toList := [] })], AObj.box [AV.own 7 (g + 1) 0 (List.length (v ++ [(d, gmax x y)]))], AObj.gone, AObj.gone, AObj.arr (g + 1) 2 false (encs (v ++ [(d, gmax x y)])), AObj.box [int d, int x, int y]] from yieldC_of (fun _ => [kc [] hz0, kt (decide_eq_true c1), ko (Orc.hp (some 33) (AV.own 7 (g + 1) 0 (List.length (v ++ [(d, gmax x y)]))) [AObj.rng LoopState.busy none (slots 35 [(3, AV.ptr 3 0), (6, AV.ptr 4 0)]) { toList := [20] } (asgAt P 59 0) (rbodyAt P 59 0), AObj.box [AV.sl 2 false (encs A)], AObj.box [AV.sl 2 false (encs B)], AObj.box [AV.lit (Value.func (Fn.func 125) { toList := [] } { toList := [] })], AObj.box [AV.own 7 g 0 (List.length v)], AObj.gone, AObj.gone, AObj.arr (g + 1) 2 false (encs (v ++ [(d, gmax x y)])), AObj.box [int d, int x, int y], AObj.box [int d, int x, int y]]), kp (show Am.Sub (AV.own 7 (g + 1) 0 (List.length v + 1)) (AV.own 7 (g + 1) 0 (List.length (v ++ [(d, gmax x y)]))) from (Sub.of_eq (by simp))), kp (show Am.HSub [AObj.rng LoopState.busy none (slots 35 [(3, AV.ptr 3 0), (6, AV.ptr 4 0)]) { toList := [20] } (asgAt P 59 0) (rbodyAt P 59 0), AObj.box [AV.sl 2 false (encs A)], AObj.box [AV.sl 2 false (encs B)], AObj.box [AV.lit (Value.func (Fn.func 125) { toList := [] } { toList := [] })], AObj.box [AV.own 7 g 0 (List.length v)], AObj.gone, AObj.gone, AObj.arr (g + 1) 2 false (encs v ++ [[int d, int (gmax x y)]]), AObj.box [int d, int x, int y], AObj.box [int d, int x, int y]] [AObj.rng LoopState.busy none (slots 35 [(3, AV.ptr 3 0), (6, AV.ptr 4 0)]) { toList := [20] } (asgAt P 59 0) (rbodyAt P 59 0), AObj.box [AV.sl 2 false (encs A)], AObj.box [AV.sl 2 false (encs B)], AObj.box [AV.lit (Value.func (Fn.func 125) { toList := [] } { toList := [] })], AObj.box [AV.own 7 g 0 (List.length v)], AObj.gone, AObj.gone, AObj.arr (g + 1) 2 false (encs (v ++ [(d, gmax x y)])), AObj.box [int d, int x, int y], AObj.box [int d, int x, int y]] from (⟨.inl rfl, .inl rfl, .inl rfl, .inl rfl, .inl rfl, .inl rfl, .inl rfl, .inl (by simp only [Go.Vec.encs_append, Go.Vec.encs_one]), .inl rfl, .inl rfl, trivial⟩)), kp (show g = g from (rfl)), kp (show List.length v = List.length (encs v) from ((Go.Vec.encs_length _).symm)), kp (show (List.length v + 1) * 16 ≤ 140737488355328 from (by omega)), kp (show ∀ (x_1 : List AV), x_1 ∈ encs (v ++ [(d, gmax x y)]) → AV.idsInL [] x_1 = true from (Go.Vec.encs_ids _))]) (fun _ => by kernel_rfl))) e1 e2
  · have h := h.2 c1
    obtain ⟨e1, e2⟩ := h
    exact YieldC.to ((show YieldC P G 0 [AV.agg [int d, int x, int y]] (q1 125 A B g v ++ [AObj.box [int d, int x, int y]]) true [jrng, AObj.box [AV.sl 2 false (encs A)], AObj.box [AV.sl 2 false (encs B)], AObj.box [AV.lit (Value.func (Fn.func 125) { toList := [] } { toList := [] })], AObj.box [AV.own 7 g 0 (List.length v)], AObj.gone, AObj.gone, AObj.arr g 2 false (encs v), AObj.box [int d, int x, int y]] from yieldC_of (fun _ => [kc [] hz0, kf (decide_eq_false c1), kp (show ∀ (x : List AV), x ∈ encs v → AV.idsInL [] x = true from (Go.Vec.encs_ids _))]) (fun _ => by kernel_rfl))) e1 e2


theorem gy0 (A B : List D) (d x y : Int) : Y0 125 gmax A B d x y := by
  unfold Y0
  by_cases h : gmax x y > 0
  · rw [if_pos h]
    exact YieldC.heapSub (gy0_w A B d x y true _ ⟨fun _ => ⟨rfl, rfl⟩, fun h' => absurd h h'⟩) ⟨.inl rfl, .inl rfl, .inl rfl, .inl rfl, .inl rfl, .inr trivial, .inr trivial, .inl rfl, trivial⟩
  · rw [if_neg h]
    exact gy0_w A B d x y true _ ⟨fun h' => absurd h' h, fun _ => ⟨rfl, rfl⟩⟩
theorem gy1 (A B v : List D) (g : Nat) (d x y : Int) (hv : v.length ≤ 3000000000) : Y1 125 gmax A B v g d x y := by
  unfold Y1
  by_cases h : gmax x y > 0
  · rw [if_pos h]
    exact gy1_w A B v g d x y true _ hv ⟨fun _ => ⟨rfl, rfl⟩, fun h' => absurd h h'⟩
  · rw [if_neg h]
    exact gy1_w A B v g d x y true _ hv ⟨fun h' => absurd h' h, fun _ => ⟨rfl, rfl⟩⟩

theorem pairs_w (a b : List D) (h : True) : CallC P G 82 [vec a, vec b] [] (AOut.ret (AV.fn (Fn.func 98) [] [AV.ptr 0 0, AV.ptr 1 0])) [AObj.box [vec a], AObj.box [vec b]] := by
  have _ := h
  exact callC_of [] (by kernel_rfl)


theorem pairs_c (a b : List D) : CallC P G 82 [vec a, vec b] [] (.ret (.fn (.func 98) [] [.ptr 0 0, .ptr 1 0])) [.box [vec a], .box [vec b]] := pairs_w a b trivial

noncomputable def plSt0 (f : Nat) (A B : List D) : St := { env := slots 91 [(0, .yl 0), (1, .ptr 1 0), (2, .ptr 2 0)], H := q0 f A B }
noncomputable def plSt1 (f : Nat) (A B : List D) (g : Nat) (v : List D) : St := { env := slots 91 [(0, .yl 0), (1, .ptr 1 0), (2, .ptr 2 0)], H := q1 f A B g v }

theorem pl_w0 (f : Nat) (tk : Int → Int → Int) (A B : List D) (hy : ∀ A B d x y, YieldC P G 0 [.agg [int d, int x, int y]] (q0 f A B ++ [.box [int d, int x, int y]]) true (if tk x y > 0 then q1 f A B 0 [(d, tk x y)] else q0 f A B ++ [.box [int d, int x, int y]])) (hA : A.length ≤ 1000000000) (hB : B.length ≤ 1000000000) (ex : AEx) (s' : St) (h : ((((↑(List.length A) : Int) > (0 : Int)) → ((((↑(List.length B) : Int) = (0 : Int)) → (∃ x3 : D, (A[0]? = some x3) ∧ (((tk (Prod.snd x3) 0 > (0 : Int)) → RunL P G none 5 (loopAt P 98 0) { env := slots 91 [(0, AV.yl 0), (1, AV.ptr 1 0), (2, AV.ptr 2 0)], H := [jrng, AObj.box [AV.sl 2 false (encs (List.drop 1 A))], AObj.box [AV.sl 2 false (encs B)], AObj.box [AV.lit (Value.func (Fn.func f) { toList := [] } { toList := [] })], AObj.box [AV.own 7 0 0 1], AObj.gone, AObj.gone, AObj.arr 0 2 false [[int (Prod.fst x3), int (tk (Prod.snd x3) 0)]]] } ex s') ∧ ((¬tk (Prod.snd x3) 0 > (0 : Int)) → RunL P G none 5 (loopAt P 98 0) { env := slots 91 [(0, AV.yl 0), (1, AV.ptr 1 0), (2, AV.ptr 2 0)], H := [jrng, AObj.box [AV.sl 2 false (encs (List.drop 1 A))], AObj.box [AV.sl 2 false (encs B)], AObj.box [AV.lit (Value.func (Fn.func f) { toList := [] } { toList := [] })], AObj.box [nilS]] } ex s')))) ∧ ((¬(↑(List.length B) : Int) = (0 : Int)) → (∃ x6 : D, (A[0]? = some x6) ∧ (∃ x8 : D, (B[0]? = some x8) ∧ (((Prod.fst x6 < Prod.fst x8) → (((tk (Prod.snd x6) 0 > (0 : Int)) → RunL P G none 5 (loopAt P 98 0) { env := slots 91 [(0, AV.yl 0), (1, AV.ptr 1 0), (2, AV.ptr 2 0)], H := [jrng, AObj.box [AV.sl 2 false (encs (List.drop 1 A))], AObj.box [AV.sl 2 false (encs B)], AObj.box [AV.lit (Value.func (Fn.func f) { toList := [] } { toList := [] })], AObj.box [AV.own 7 0 0 1], AObj.gone, AObj.gone, AObj.arr 0 2 false [[int (Prod.fst x6), int (tk (Prod.snd x6) 0)]]] } ex s') ∧ ((¬tk (Prod.snd x6) 0 > (0 : Int)) → RunL P G none 5 (loopAt P 98 0) { env := slots 91 [(0, AV.yl 0), (1, AV.ptr 1 0), (2, AV.ptr 2 0)], H := [jrng, AObj.box [AV.sl 2 false (encs (List.drop 1 A))], AObj.box [AV.sl 2 false (encs B)], AObj.box [AV.lit (Value.func (Fn.func f) { toList := [] } { toList := [] })], AObj.box [nilS]] } ex s'))) ∧ ((¬Prod.fst x6 < Prod.fst x8) → (((Prod.fst x8 < Prod.fst x6) → (((tk 0 (Prod.snd x8) > (0 : Int)) → RunL P G none 5 (loopAt P 98 0) { env := slots 91 [(0, AV.yl 0), (1, AV.ptr 1 0), (2, AV.ptr 2 0)], H := [jrng, AObj.box [AV.sl 2 false (encs A)], AObj.box [AV.sl 2 false (encs (List.drop 1 B))], AObj.box [AV.lit (Value.func (Fn.func f) { toList := [] } { toList := [] })], AObj.box [AV.own 7 0 0 1], AObj.gone, AObj.gone, AObj.arr 0 2 false [[int (Prod.fst x8), int (tk 0 (Prod.snd x8))]]] } ex s') ∧ ((¬tk 0 (Prod.snd x8) > (0 : Int)) → RunL P G none 5 (loopAt P 98 0) { env := slots 91 [(0, AV.yl 0), (1, AV.ptr 1 0), (2, AV.ptr 2 0)], H := [jrng, AObj.box [AV.sl 2 false (encs A)], AObj.box [AV.sl 2 false (encs (List.drop 1 B))], AObj.box [AV.lit (Value.func (Fn.func f) { toList := [] } { toList := [] })], AObj.box [nilS]] } ex s'))) ∧ ((¬Prod.fst x8 < Prod.fst x6) → (((tk (Prod.snd x6) (Prod.snd x8) > (0 : Int)) → RunL P G none 5 (loopAt P 98 0) { env := slots 91 [(0, AV.yl 0), (1, AV.ptr 1 0), (2, AV.ptr 2 0)], H := [jrng, AObj.box [AV.sl 2 false (encs (List.drop 1 A))], AObj.box [AV.sl 2 false (encs (List.drop 1 B))], AObj.box [AV.lit (Value.func (Fn.func f) { toList := [] } { toList := [] })], AObj.box [AV.own 7 0 0 1], AObj.gone, AObj.gone, AObj.arr 0 2 false [[int (Prod.fst x6), int (tk (Prod.snd x6) (Prod.snd x8))]]] } ex s') ∧ ((¬tk (Prod.snd x6) (Prod.snd x8) > (0 : Int)) → RunL P G none 5 (loopAt P 98 0) { env := slots 91 [(0, AV.yl 0), (1, AV.ptr 1 0), (2, AV.ptr 2 0)], H := [jrng, AObj.box [AV.sl 2 false (encs (List.drop 1 A))], AObj.box [AV.sl 2 false (encs (List.drop 1 B))], AObj.box [AV.lit (Value.func (Fn.func f) { toList := [] } { toList := [] })], AObj.box [nilS]] } ex s'))))))))))) ∧ ((¬(↑(List.length A) : Int) > (0 : Int)) → ((((↑(List.length B) : Int) > (0 : Int)) → (∃ x19 : D, (B[0]? = some x19) ∧ (((tk 0 (Prod.snd x19) > (0 : Int)) → RunL P G none 5 (loopAt P 98 0) { env := slots 91 [(0, AV.yl 0), (1, AV.ptr 1 0), (2, AV.ptr 2 0)], H := [jrng, AObj.box [AV.sl 2 false (encs A)], AObj.box [AV.sl 2 false (encs (List.drop 1 B))], AObj.box [AV.lit (Value.func (Fn.func f) { toList := [] } { toList := [] })], AObj.box [AV.own 7 0 0 1], AObj.gone, AObj.gone, AObj.arr 0 2 false [[int (Prod.fst x19), int (tk 0 (Prod.snd x19))]]] } ex s') ∧ ((¬tk 0 (Prod.snd x19) > (0 : Int)) → RunL P G none 5 (loopAt P 98 0) { env := slots 91 [(0, AV.yl 0), (1, AV.ptr 1 0), (2, AV.ptr 2 0)], H := [jrng, AObj.box [AV.sl 2 false (encs A)], AObj.box [AV.sl 2 false (encs (List.drop 1 B))], AObj.box [AV.lit (Value.func (Fn.func f) { toList := [] } { toList := [] })], AObj.box [nilS]] } ex s')))) ∧ ((¬(↑(List.length B) : Int) > (0 : Int)) → (AEx.exit 0 = ex) ∧ ({ env := slots 91 [], H := [jrng, AObj.box [AV.sl 2 false (encs A)], AObj.box [AV.sl 2 false (encs B)], AObj.box [AV.lit (Value.func (Fn.func f) { toList := [] } { toList := [] })], AObj.box [nilS]] } = s')))))) : RunL P G none 5 (loopAt P 98 0) (plSt0 f A B) ex s' := by
  have hz0 : Am.Sub (int (↑(List.length (encs A)) : Int)) (int (↑(List.length A) : Int)) := (Sub.of_eq (by simp only [Go.Vec.encs_length]))
  by_cases c1 : ((↑(List.length A) : Int) > (0 : Int))
  · have h := h.1 c1
    have hz1 : Am.Sub (int (↑(List.length (encs B)) : Int)) (int (↑(List.length B) : Int)) := (Sub.of_eq (by simp only [Go.Vec.encs_length]))
    by_cases c2 : ((↑(List.length B) : Int) = (0 : Int))
    · have h := h.1 c2
      obtain ⟨x3, o4, h⟩ := h
      have hz2 : (0 : Int) ≤ (0 : Int) ∧ (encs A)[Int.toNat 0]? = some (enc x3) := (el_nat o4)
      have hz3 : Am.Sub (AV.sl 2 false (List.drop 1 (List.take (Int.toNat (↑(List.length (encs A)) : Int)) (encs A)))) (AV.sl 2 false (encs (List.drop 1 A))) := (Sub.of_eq (by simp only [Go.Vec.encs_length, Go.Vec.encs_drop, Go.Vec.encs_take, Int.toNat_natCast, List.take_length]))
      have hz4 : (0 : Int) ≤ (1 : Int) ∧ (1 : Int) ≤ (↑(List.length (encs A)) : Int) ∧ (↑(List.length (encs A)) : Int) ≤ (↑(List.length (encs A)) : Int) := (by rw [Go.Vec.encs_length]; omega)
      by_cases c5 : (tk (Prod.snd x3) 0 > (0 : Int))
      · have h := h.1 c5
        exact loop_next [kv 6 hz0, kt (decide_eq_true c1), kt (Eq.refl true), kv 32 hz1, kt (beq_iff_eq.2 c2), kt (Eq.refl true), ko (Orc.elem (enc x3)), ko (Orc.elem (enc x3)), kp hz2, kp hz2, kv 60 hz3, ko (Orc.call [] (AOut.ret (Am.bool true)) (q1 f (List.drop 1 A) B 0 [(Prod.fst x3, tk (Prod.snd x3) 0)])), kp hz4, kp (show YieldC P G 0 [AV.agg [int (Prod.fst x3), int (Prod.snd x3), int 0]] [jrng, AObj.box [AV.sl 2 false (encs (List.drop 1 A))], AObj.box [AV.sl 2 false (encs B)], AObj.box [AV.lit (Value.func (Fn.func f) { toList := [] } { toList := [] })], AObj.box [nilS], AObj.box [int (Prod.fst x3), int (Prod.snd x3), int 0]] true [jrng, AObj.box [AV.sl 2 false (encs (List.drop 1 A))], AObj.box [AV.sl 2 false (encs B)], AObj.box [AV.lit (Value.func (Fn.func f) { toList := [] } { toList := [] })], AObj.box [AV.own 7 0 0 1], AObj.gone, AObj.gone, AObj.arr 0 2 false [[int (Prod.fst x3), int (tk (Prod.snd x3) 0)]]] from (by have h0 := (@hy (List.drop 1 A) (B) (Prod.fst x3) (Prod.snd x3) (0)); simp only [if_pos c5] at h0; exact h0)), kf (Eq.refl false)] (others 91 [0, 1, 2]) 8 h (by kernel_rfl)
      · have h := h.2 c5
        exact loop_next [kv 6 hz0, kt (decide_eq_true c1), kt (Eq.refl true), kv 32 hz1, kt (beq_iff_eq.2 c2), kt (Eq.refl true), ko (Orc.elem (enc x3)), ko (Orc.elem (enc x3)), kp hz2, kp hz2, kv 60 hz3, ko (Orc.call [] (AOut.ret (Am.bool true)) (q0 f (List.drop 1 A) B ++ [AObj.box [int (Prod.fst x3), int (Prod.snd x3), int 0]])), kp hz4, kp (show YieldC P G 0 [AV.agg [int (Prod.fst x3), int (Prod.snd x3), int 0]] [jrng, AObj.box [AV.sl 2 false (encs (List.drop 1 A))], AObj.box [AV.sl 2 false (encs B)], AObj.box [AV.lit (Value.func (Fn.func f) { toList := [] } { toList := [] })], AObj.box [nilS], AObj.box [int (Prod.fst x3), int (Prod.snd x3), int 0]] true [jrng, AObj.box [AV.sl 2 false (encs (List.drop 1 A))], AObj.box [AV.sl 2 false (encs B)], AObj.box [AV.lit (Value.func (Fn.func f) { toList := [] } { toList := [] })], AObj.box [nilS], AObj.box [int (Prod.fst x3), int (Prod.snd x3), int 0]] from (by have h0 := (@hy (List.drop 1 A) (B) (Prod.fst x3) (Prod.snd x3) (0)); simp only [if_neg c5] at h0; exact h0)), kf (Eq.refl false)] (others 91 [0, 1, 2]) 5 h (by kernel_rfl)
    · have h := h.2 c2
      obtain ⟨x6, o7, h⟩ := h
      have hz7 : (0 : Int) ≤ (0 : Int) ∧ (encs A)[Int.toNat 0]? = some (enc x6) := (el_nat o7)
      obtain ⟨x8, o9, h⟩ := h
      have hz8 : (0 : Int) ≤ (0 : Int) ∧ (encs B)[Int.toNat 0]? = some (enc x8) := (el_nat o9)
      by_cases c10 : (Prod.fst x6 < Prod.fst x8)
      · have h := h.1 c10
        by_cases c11 : (tk (Prod.snd x6) 0 > (0 : Int))
        · have h := h.1 c11
          exact loop_next [kv 6 hz0, kt (decide_eq_true c1), kt (Eq.refl true), kv 32 hz1, kf (beq_eq_false_iff_ne.2 c2), kv 36 hz0, kt (decide_eq_true c1), ko (Orc.elem (enc x6)), ko (Orc.elem (enc x8)), kp hz7, kp hz8, kt (decide_eq_true c10), ko (Orc.elem (enc x6)), ko (Orc.elem (enc x6)), kp hz7, kp hz7, kv 60 (show Am.Sub (AV.sl 2 false (List.drop 1 (List.take (Int.toNat (↑(List.length (encs A)) : Int)) (encs A)))) (AV.sl 2 false (encs (List.drop 1 A))) from (Sub.of_eq (by simp only [Go.Vec.encs_length, Go.Vec.encs_drop, Go.Vec.encs_take, Int.toNat_natCast, List.take_length]))), ko (Orc.call [] (AOut.ret (Am.bool true)) (q1 f (List.drop 1 A) B 0 [(Prod.fst x6, tk (Prod.snd x6) 0)])), kp (show (0 : Int) ≤ (1 : Int) ∧ (1 : Int) ≤ (↑(List.length (encs A)) : Int) ∧ (↑(List.length (encs A)) : Int) ≤ (↑(List.length (encs A)) : Int) from (by rw [Go.Vec.encs_length]; omega)), kp (show YieldC P G 0 [AV.agg [int (Prod.fst x6), int (Prod.snd x6), int 0]] [jrng, AObj.box [AV.sl 2 false (encs (List.drop 1 A))], AObj.box [AV.sl 2 false (encs B)], AObj.box [AV.lit (Value.func (Fn.func f) { toList := [] } { toList := [] })], AObj.box [nilS], AObj.box [int (Prod.fst x6), int (Prod.snd x6), int 0]] true [jrng, AObj.box [AV.sl 2 false (encs (List.drop 1 A))], AObj.box [AV.sl 2 false (encs B)], AObj.box [AV.lit (Value.func (Fn.func f) { toList := [] } { toList := [] })], AObj.box [AV.own 7 0 0 1], AObj.gone, AObj.gone, AObj.arr 0 2 false [[int (Prod.fst x6), int (tk (Prod.snd x6) 0)]]] from (by have h0 := (@hy (List.drop 1 A) (B) (Prod.fst x6) (Prod.snd x6) (0)); simp only [if_pos c11] at h0; exact h0)), kf (Eq.refl false)] (others 91 [0, 1, 2]) 8 h (by kernel_rfl)
        · have h := h.2 c11
          exact loop_next [kv 6 hz0, kt (decide_eq_true c1), kt (Eq.refl true), kv 32 hz1, kf (beq_eq_false_iff_ne.2 c2), kv 36 hz0, kt (decide_eq_true c1), ko (Orc.elem (enc x6)), ko (Orc.elem (enc x8)), kp hz7, kp hz8, kt (decide_eq_true c10), ko (Orc.elem (enc x6)), ko (Orc.elem (enc x6)), kp hz7, kp hz7, kv 60 (show Am.Sub (AV.sl 2 false (List.drop 1 (List.take (Int.toNat (↑(List.length (encs A)) : Int)) (encs A)))) (AV.sl 2 false (encs (List.drop 1 A))) from (Sub.of_eq (by simp only [Go.Vec.encs_length, Go.Vec.encs_drop, Go.Vec.encs_take, Int.toNat_natCast, List.take_length]))), ko (Orc.call [] (AOut.ret (Am.bool true)) (q0 f (List.drop 1 A) B ++ [AObj.box [int (Prod.fst x6), int (Prod.snd x6), int 0]])), kp (show (0 : Int) ≤ (1 : Int) ∧ (1 : Int) ≤ (↑(List.length (encs A)) : Int) ∧ (↑(List.length (encs A)) : Int) ≤ (↑(List.length (encs A)) : Int) from (by rw [Go.Vec.encs_length]; omega)), kp (show YieldC P G 0 [AV.agg [int (Prod.fst x6), int (Prod.snd x6), int 0]] [jrng, AObj.box [AV.sl 2 false (encs (List.drop 1 A))], AObj.box [AV.sl 2 false (encs B)], AObj.box [AV.lit (Value.func (Fn.func f) { toList := [] } { toList := [] })], AObj.box [nilS], AObj.box [int (Prod.fst x6), int (Prod.snd x6), int 0]] true [jrng, AObj.box [AV.sl 2 false (encs (List.drop 1 A))], AObj.box [AV.sl 2 false (encs B)], AObj.box [AV.lit (Value.func (Fn.func f) { toList := [] } { toList := [] })], AObj.box [nilS], AObj.box [int (Prod.fst x6), int (Prod.snd x6), int 0]] from (by have h0 := (@hy (List.drop 1 A) (B) (Prod.fst x6) (Prod.snd x6) (0)); simp only [if_neg c11] at h0; exact h0)), kf (Eq.refl false)] (others 91 [0, 1, 2]) 5 h (by kernel_rfl)
      · have h := h.2 c10
        have hz11 : ((↑(List.length A) : Int) == 0) = false := (decide_eq_false (by omega))
        by_cases c13 : (Prod.fst x8 < Prod.fst x6)
        · have h := h.1 c13
          have hz12 : Am.Sub (AV.sl 2 false (List.drop 1 (List.take (Int.toNat (↑(List.length (encs B)) : Int)) (encs B)))) (AV.sl 2 false (encs (List.drop 1 B))) := (Sub.of_eq (by simp only [Go.Vec.encs_length, Go.Vec.encs_drop, Go.Vec.encs_take, Int.toNat_natCast, List.take_length]))
          have hz13 : (0 : Int) ≤ (1 : Int) ∧ (1 : Int) ≤ (↑(List.length (encs B)) : Int) ∧ (↑(List.length (encs B)) : Int) ≤ (↑(List.length (encs B)) : Int) := (by rw [Go.Vec.encs_length]; omega)
          by_cases c14 : (tk 0 (Prod.snd x8) > (0 : Int))
          · have h := h.1 c14
            exact loop_next [kv 6 hz0, kt (decide_eq_true c1), kt (Eq.refl true), kv 32 hz1, kf (beq_eq_false_iff_ne.2 c2), kv 36 hz0, kt (decide_eq_true c1), ko (Orc.elem (enc x6)), ko (Orc.elem (enc x8)), kp hz7, kp hz8, kf (decide_eq_false c10), kv 63 hz0, kf hz11, ko (Orc.elem (enc x8)), ko (Orc.elem (enc x6)), kp hz8, kp hz7, kt (decide_eq_true c13), ko (Orc.elem (enc x8)), ko (Orc.elem (enc x8)), kp hz8, kp hz8, kv 86 hz12, ko (Orc.call [] (AOut.ret (Am.bool true)) (q1 f A (List.drop 1 B) 0 [(Prod.fst x8, tk 0 (Prod.snd x8))])), kp hz13, kp (show YieldC P G 0 [AV.agg [int (Prod.fst x8), int 0, int (Prod.snd x8)]] [jrng, AObj.box [AV.sl 2 false (encs A)], AObj.box [AV.sl 2 false (encs (List.drop 1 B))], AObj.box [AV.lit (Value.func (Fn.func f) { toList := [] } { toList := [] })], AObj.box [nilS], AObj.box [int (Prod.fst x8), int 0, int (Prod.snd x8)]] true [jrng, AObj.box [AV.sl 2 false (encs A)], AObj.box [AV.sl 2 false (encs (List.drop 1 B))], AObj.box [AV.lit (Value.func (Fn.func f) { toList := [] } { toList := [] })], AObj.box [AV.own 7 0 0 1], AObj.gone, AObj.gone, AObj.arr 0 2 false [[int (Prod.fst x8), int (tk 0 (Prod.snd x8))]]] from (by have h0 := (@hy (A) (List.drop 1 B) (Prod.fst x8) (0) (Prod.snd x8)); simp only [if_pos c14] at h0; exact h0)), kf (Eq.refl false)] (others 91 [0, 1, 2]) 8 h (by kernel_rfl)
          · have h := h.2 c14
            exact loop_next [kv 6 hz0, kt (decide_eq_true c1), kt (Eq.refl true), kv 32 hz1, kf (beq_eq_false_iff_ne.2 c2), kv 36 hz0, kt (decide_eq_true c1), ko (Orc.elem (enc x6)), ko (Orc.elem (enc x8)), kp hz7, kp hz8, kf (decide_eq_false c10), kv 63 hz0, kf hz11, ko (Orc.elem (enc x8)), ko (Orc.elem (enc x6)), kp hz8, kp hz7, kt (decide_eq_true c13), ko (Orc.elem (enc x8)), ko (Orc.elem (enc x8)), kp hz8, kp hz8, kv 86 hz12, ko (Orc.call [] (AOut.ret (Am.bool true)) (q0 f A (List.drop 1 B) ++ [AObj.box [int (Prod.fst x8), int 0, int (Prod.snd x8)]])), kp hz13, kp (show YieldC P G 0 [AV.agg [int (Prod.fst x8), int 0, int (Prod.snd x8)]] [jrng, AObj.box [AV.sl 2 false (encs A)], AObj.box [AV.sl 2 false (encs (List.drop 1 B))], AObj.box [AV.lit (Value.func (Fn.func f) { toList := [] } { toList := [] })], AObj.box [nilS], AObj.box [int (Prod.fst x8), int 0, int (Prod.snd x8)]] true [jrng, AObj.box [AV.sl 2 false (encs A)], AObj.box [AV.sl 2 false (encs (List.drop 1 B))], AObj.box [AV.lit (Value.func (Fn.func f) { toList := [] } { toList := [] })], AObj.box [nilS], AObj.box [int (Prod.fst x8), int 0, int (Prod.snd x8)]] from (by have h0 := (@hy (A) (List.drop 1 B) (Prod.fst x8) (0) (Prod.snd x8)); simp only [if_neg c14] at h0; exact h0)), kf (Eq.refl false)] (others 91 [0, 1, 2]) 5 h (by kernel_rfl)
        · have h := h.2 c13
          have hz12 : Am.Sub (AV.sl 2 false (List.drop 1 (List.take (Int.toNat (↑(List.length (encs B)) : Int)) (encs B)))) (AV.sl 2 false (encs (List.drop 1 B))) := (Sub.of_eq (by simp only [Go.Vec.encs_length, Go.Vec.encs_drop, Go.Vec.encs_take, Int.toNat_natCast, List.take_length]))
          have hz13 : (0 : Int) ≤ (1 : Int) ∧ (1 : Int) ≤ (↑(List.length (encs B)) : Int) ∧ (↑(List.length (encs B)) : Int) ≤ (↑(List.length (encs B)) : Int) := (by rw [Go.Vec.encs_length]; omega)
          by_cases c15 : (tk (Prod.snd x6) (Prod.snd x8) > (0 : Int))
          · have h := h.1 c15
            exact loop_next [kv 6 hz0, kt (decide_eq_true c1), kt (Eq.refl true), kv 32 hz1, kf (beq_eq_false_iff_ne.2 c2), kv 36 hz0, kt (decide_eq_true c1), ko (Orc.elem (enc x6)), ko (Orc.elem (enc x8)), kp hz7, kp hz8, kf (decide_eq_false c10), kv 63 hz0, kf hz11, ko (Orc.elem (enc x8)), ko (Orc.elem (enc x6)), kp hz8, kp hz7, kf (decide_eq_false c13), ko (Orc.elem (enc x6)), ko (Orc.elem (enc x6)), ko (Orc.elem (enc x8)), kp hz7, kp hz7, kp hz8, kv 27 (show Am.Sub (AV.sl 2 false (List.drop 1 (List.take (Int.toNat (↑(List.length (encs A)) : Int)) (encs A)))) (AV.sl 2 false (encs (List.drop 1 A))) from (Sub.of_eq (by simp only [Go.Vec.encs_length, Go.Vec.encs_drop, Go.Vec.encs_take, Int.toNat_natCast, List.take_length]))), kp (show (0 : Int) ≤ (1 : Int) ∧ (1 : Int) ≤ (↑(List.length (encs A)) : Int) ∧ (↑(List.length (encs A)) : Int) ≤ (↑(List.length (encs A)) : Int) from (by rw [Go.Vec.encs_length]; omega)), kv 29 hz12, ko (Orc.call [] (AOut.ret (Am.bool true)) (q1 f (List.drop 1 A) (List.drop 1 B) 0 [(Prod.fst x6, tk (Prod.snd x6) (Prod.snd x8))])), kp hz13, kp (show YieldC P G 0 [AV.agg [int (Prod.fst x6), int (Prod.snd x6), int (Prod.snd x8)]] [jrng, AObj.box [AV.sl 2 false (encs (List.drop 1 A))], AObj.box [AV.sl 2 false (encs (List.drop 1 B))], AObj.box [AV.lit (Value.func (Fn.func f) { toList := [] } { toList := [] })], AObj.box [nilS], AObj.box [int (Prod.fst x6), int (Prod.snd x6), int (Prod.snd x8)]] true [jrng, AObj.box [AV.sl 2 false (encs (List.drop 1 A))], AObj.box [AV.sl 2 false (encs (List.drop 1 B))], AObj.box [AV.lit (Value.func (Fn.func f) { toList := [] } { toList := [] })], AObj.box [AV.own 7 0 0 1], AObj.gone, AObj.gone, AObj.arr 0 2 false [[int (Prod.fst x6), int (tk (Prod.snd x6) (Prod.snd x8))]]] from (by have h0 := (@hy (List.drop 1 A) (List.drop 1 B) (Prod.fst x6) (Prod.snd x6) (Prod.snd x8)); simp only [if_pos c15] at h0; exact h0)), kf (Eq.refl false)] (others 91 [0, 1, 2]) 8 h (by kernel_rfl)
          · have h := h.2 c15
            exact loop_next [kv 6 hz0, kt (decide_eq_true c1), kt (Eq.refl true), kv 32 hz1, kf (beq_eq_false_iff_ne.2 c2), kv 36 hz0, kt (decide_eq_true c1), ko (Orc.elem (enc x6)), ko (Orc.elem (enc x8)), kp hz7, kp hz8, kf (decide_eq_false c10), kv 63 hz0, kf hz11, ko (Orc.elem (enc x8)), ko (Orc.elem (enc x6)), kp hz8, kp hz7, kf (decide_eq_false c13), ko (Orc.elem (enc x6)), ko (Orc.elem (enc x6)), ko (Orc.elem (enc x8)), kp hz7, kp hz7, kp hz8, kv 27 (show Am.Sub (AV.sl 2 false (List.drop 1 (List.take (Int.toNat (↑(List.length (encs A)) : Int)) (encs A)))) (AV.sl 2 false (encs (List.drop 1 A))) from (Sub.of_eq (by simp only [Go.Vec.encs_length, Go.Vec.encs_drop, Go.Vec.encs_take, Int.toNat_natCast, List.take_length]))), kp (show (0 : Int) ≤ (1 : Int) ∧ (1 : Int) ≤ (↑(List.length (encs A)) : Int) ∧ (↑(List.length (encs A)) : Int) ≤ (↑(List.length (encs A)) : Int) from (by rw [Go.Vec.encs_length]; omega)), kv 29 hz12, ko (Orc.call [] (AOut.ret (Am.bool true)) (q0 f (List.drop 1 A) (List.drop 1 B) ++ [AObj.box [int (Prod.fst x6), int (Prod.snd x6), int (Prod.snd x8)]])), kp hz13, kp (show YieldC P G 0 [AV.agg [int (Prod.fst x6), int (Prod.snd x6), int (Prod.snd x8)]] [jrng, AObj.box [AV.sl 2 false (encs (List.drop 1 A))], AObj.box [AV.sl 2 false (encs (List.drop 1 B))], AObj.box [AV.lit (Value.func (Fn.func f) { toList := [] } { toList := [] })], AObj.box [nilS], AObj.box [int (Prod.fst x6), int (Prod.snd x6), int (Prod.snd x8)]] true [jrng, AObj.box [AV.sl 2 false (encs (List.drop 1 A))], AObj.box [AV.sl 2 false (encs (List.drop 1 B))], AObj.box [AV.lit (Value.func (Fn.func f) { toList := [] } { toList := [] })], AObj.box [nilS], AObj.box [int (Prod.fst x6), int (Prod.snd x6), int (Prod.snd x8)]] from (by have h0 := (@hy (List.drop 1 A) (List.drop 1 B) (Prod.fst x6) (Prod.snd x6) (Prod.snd x8)); simp only [if_neg c15] at h0; exact h0)), kf (Eq.refl false)] (others 91 [0, 1, 2]) 5 h (by kernel_rfl)
  · have h := h.2 c1
    have hz1 : Am.Sub (int (↑(List.length (encs B)) : Int)) (int (↑(List.length B) : Int)) := (Sub.of_eq (by simp only [Go.Vec.encs_length]))
    by_cases c16 : ((↑(List.length B) : Int) > (0 : Int))
    · have h := h.1 c16
      have hz18 : ((↑(List.length B) : Int) == 0) = false := (decide_eq_false (by omega))
      have hz19 : ((↑(List.length A) : Int) == 0) = true := (decide_eq_true (by omega))
      obtain ⟨x19, o20, h⟩ := h
      have hz20 : (0 : Int) ≤ (0 : Int) ∧ (encs B)[Int.toNat 0]? = some (enc x19) := (el_nat o20)
      by_cases c21 : (tk 0 (Prod.snd x19) > (0 : Int))
      · have h := h.1 c21
        exact loop_next [kv 6 hz0, kf (decide_eq_false c1), kv 10 hz1, kt (decide_eq_true c16), kv 32 hz1, kf hz18, kv 36 hz0, kf (decide_eq_false c1), kf (Eq.refl false), kv 63 hz0, kt hz19, kt (Eq.refl true), ko (Orc.elem (enc x19)), ko (Orc.elem (enc x19)), kp hz20, kp hz20, kv 86 (show Am.Sub (AV.sl 2 false (List.drop 1 (List.take (Int.toNat (↑(List.length (encs B)) : Int)) (encs B)))) (AV.sl 2 false (encs (List.drop 1 B))) from (Sub.of_eq (by simp only [Go.Vec.encs_length, Go.Vec.encs_drop, Go.Vec.encs_take, Int.toNat_natCast, List.take_length]))), ko (Orc.call [] (AOut.ret (Am.bool true)) (q1 f A (List.drop 1 B) 0 [(Prod.fst x19, tk 0 (Prod.snd x19))])), kp (show (0 : Int) ≤ (1 : Int) ∧ (1 : Int) ≤ (↑(List.length (encs B)) : Int) ∧ (↑(List.length (encs B)) : Int) ≤ (↑(List.length (encs B)) : Int) from (by rw [Go.Vec.encs_length]; omega)), kp (show YieldC P G 0 [AV.agg [int (Prod.fst x19), int 0, int (Prod.snd x19)]] [jrng, AObj.box [AV.sl 2 false (encs A)], AObj.box [AV.sl 2 false (encs (List.drop 1 B))], AObj.box [AV.lit (Value.func (Fn.func f) { toList := [] } { toList := [] })], AObj.box [nilS], AObj.box [int (Prod.fst x19), int 0, int (Prod.snd x19)]] true [jrng, AObj.box [AV.sl 2 false (encs A)], AObj.box [AV.sl 2 false (encs (List.drop 1 B))], AObj.box [AV.lit (Value.func (Fn.func f) { toList := [] } { toList := [] })], AObj.box [AV.own 7 0 0 1], AObj.gone, AObj.gone, AObj.arr 0 2 false [[int (Prod.fst x19), int (tk 0 (Prod.snd x19))]]] from (by have h0 := (@hy (A) (List.drop 1 B) (Prod.fst x19) (0) (Prod.snd x19)); simp only [if_pos c21] at h0; exact h0)), kf (Eq.refl false)] (others 91 [0, 1, 2]) 8 h (by kernel_rfl)
      · have h := h.2 c21
        exact loop_next [kv 6 hz0, kf (decide_eq_false c1), kv 10 hz1, kt (decide_eq_true c16), kv 32 hz1, kf hz18, kv 36 hz0, kf (decide_eq_false c1), kf (Eq.refl false), kv 63 hz0, kt hz19, kt (Eq.refl true), ko (Orc.elem (enc x19)), ko (Orc.elem (enc x19)), kp hz20, kp hz20, kv 86 (show Am.Sub (AV.sl 2 false (List.drop 1 (List.take (Int.toNat (↑(List.length (encs B)) : Int)) (encs B)))) (AV.sl 2 false (encs (List.drop 1 B))) from (Sub.of_eq (by simp only [Go.Vec.encs_length, Go.Vec.encs_drop, Go.Vec.encs_take, Int.toNat_natCast, List.take_length]))), ko (Orc.call [] (AOut.ret (Am.bool true)) (q0 f A (List.drop 1 B) ++ [AObj.box [int (Prod.fst x19), int 0, int (Prod.snd x19)]])), kp (show (0 : Int) ≤ (1 : Int) ∧ (1 : Int) ≤ (↑(List.length (encs B)) : Int) ∧ (↑(List.length (encs B)) : Int) ≤ (↑(List.length (encs B)) : Int) from (by rw [Go.Vec.encs_length]; omega)), kp (show YieldC P G 0 [AV.agg [int (Prod.fst x19), int 0, int (Prod.snd x19)]] [jrng, AObj.box [AV.sl 2 false (encs A)], AObj.box [AV.sl 2 false (encs (List.drop 1 B))], AObj.box [AV.lit (Value.func (Fn.func f) { toList := [] } { toList := [] })], AObj.box [nilS], AObj.box [int (Prod.fst x19), int 0, int (Prod.snd x19)]] true [jrng, AObj.box [AV.sl 2 false (encs A)], AObj.box [AV.sl 2 false (encs (List.drop 1 B))], AObj.box [AV.lit (Value.func (Fn.func f) { toList := [] } { toList := [] })], AObj.box [nilS], AObj.box [int (Prod.fst x19), int 0, int (Prod.snd x19)]] from (by have h0 := (@hy (A) (List.drop 1 B) (Prod.fst x19) (0) (Prod.snd x19)); simp only [if_neg c21] at h0; exact h0)), kf (Eq.refl false)] (others 91 [0, 1, 2]) 5 h (by kernel_rfl)
    · have h := h.2 c16
      obtain ⟨eX, eS⟩ := h
      exact RunL.to ((show RunL P G none 5 (loopAt P 98 0) (plSt0 f A B) (AEx.exit 0) { env := slots 91 [], H := [jrng, AObj.box [AV.sl 2 false (encs A)], AObj.box [AV.sl 2 false (encs B)], AObj.box [AV.lit (Value.func (Fn.func f) { toList := [] } { toList := [] })], AObj.box [nilS]] } from loop_exit [kv 6 hz0, kf (decide_eq_false c1), kv 10 hz1, kf (decide_eq_false c16)] (others 91 []) 5 (by kernel_rfl))) eX (SubS.of_eq eS)


end Go.Vec

/- VECTOR, 5: the loop over the pairs of two vectors. -/
namespace Go.Vec
set_option maxRecDepth 100000
set_option linter.unusedSimpArgs false
set_option linter.unusedVariables false
open Go Go.Am Go.Proofs Go.Seat

theorem pl_w1 (f : Nat) (tk : Int → Int → Int) (A B : List D) (g : Nat) (v : List D) (hv : v.length ≤ 3000000000) (hy : ∀ A B v g d x y, v.length ≤ 3000000000 → YieldC P G 0 [.agg [int d, int x, int y]] (q1 f A B g v ++ [.box [int d, int x, int y]]) true (if tk x y > 0 then q1 f A B (g + 1) (v ++ [(d, tk x y)]) ++ [.box [int d, int x, int y]] else q1 f A B g v ++ [.box [int d, int x, int y]])) (hA : A.length ≤ 1000000000) (hB : B.length ≤ 1000000000) (ex : AEx) (s' : St) (h : ((((↑(List.length A) : Int) > (0 : Int)) → ((((↑(List.length B) : Int) = (0 : Int)) → (∃ x3 : D, (A[0]? = some x3) ∧ (((tk (Prod.snd x3) 0 > (0 : Int)) → RunL P G none 5 (loopAt P 98 0) { env := slots 91 [(0, AV.yl 0), (1, AV.ptr 1 0), (2, AV.ptr 2 0)], H := [jrng, AObj.box [AV.sl 2 false (encs (List.drop 1 A))], AObj.box [AV.sl 2 false (encs B)], AObj.box [AV.lit (Value.func (Fn.func f) { toList := [] } { toList := [] })], AObj.box [AV.own 7 (g + 1) 0 (List.length (v ++ [(Prod.fst x3, tk (Prod.snd x3) 0)]))], AObj.gone, AObj.gone, AObj.arr (g + 1) 2 false (encs (v ++ [(Prod.fst x3, tk (Prod.snd x3) 0)]))] } ex s') ∧ ((¬tk (Prod.snd x3) 0 > (0 : Int)) → RunL P G none 5 (loopAt P 98 0) { env := slots 91 [(0, AV.yl 0), (1, AV.ptr 1 0), (2, AV.ptr 2 0)], H := [jrng, AObj.box [AV.sl 2 false (encs (List.drop 1 A))], AObj.box [AV.sl 2 false (encs B)], AObj.box [AV.lit (Value.func (Fn.func f) { toList := [] } { toList := [] })], AObj.box [AV.own 7 g 0 (List.length v)], AObj.gone, AObj.gone, AObj.arr g 2 false (encs v)] } ex s')))) ∧ ((¬(↑(List.length B) : Int) = (0 : Int)) → (∃ x6 : D, (A[0]? = some x6) ∧ (∃ x8 : D, (B[0]? = some x8) ∧ (((Prod.fst x6 < Prod.fst x8) → (((tk (Prod.snd x6) 0 > (0 : Int)) → RunL P G none 5 (loopAt P 98 0) { env := slots 91 [(0, AV.yl 0), (1, AV.ptr 1 0), (2, AV.ptr 2 0)], H := [jrng, AObj.box [AV.sl 2 false (encs (List.drop 1 A))], AObj.box [AV.sl 2 false (encs B)], AObj.box [AV.lit (Value.func (Fn.func f) { toList := [] } { toList := [] })], AObj.box [AV.own 7 (g + 1) 0 (List.length (v ++ [(Prod.fst x6, tk (Prod.snd x6) 0)]))], AObj.gone, AObj.gone, AObj.arr (g + 1) 2 false (encs (v ++ [(Prod.fst x6, tk (Prod.snd x6) 0)]))] } ex s') ∧ ((¬tk (Prod.snd x6) 0 > (0 : Int)) → RunL P G none 5 (loopAt P 98 0) { env := slots 91 [(0, AV.yl 0), (1, AV.ptr 1 0), (2, AV.ptr 2 0)], H := [jrng, AObj.box [AV.sl 2 false (encs (List.drop 1 A))], AObj.box [AV.sl 2 false (encs B)], AObj.box [AV.lit (Value.func (Fn.func f) { toList := [] } { toList := [] })], AObj.box [AV.own 7 g 0 (List.length v)], AObj.gone, AObj.gone, AObj.arr g 2 false (encs v)] } ex s'))) ∧ ((¬Prod.fst x6 < Prod.fst x8) → (((Prod.fst x8 < Prod.fst x6) → (((tk 0 (Prod.snd x8) > (0 : Int)) → RunL P G none 5 (loopAt P 98 0) { env := slots 91 [(0, AV.yl 0), (1, AV.ptr 1 0), (2, AV.ptr 2 0)], H := [jrng, AObj.box [AV.sl 2 false (encs A)], AObj.box [AV.sl 2 false (encs (List.drop 1 B))], AObj.box [AV.lit (Value.func (Fn.func f) { toList := [] } { toList := [] })], AObj.box [AV.own 7 (g + 1) 0 (List.length (v ++ [(Prod.fst x8, tk 0 (Prod.snd x8))]))], AObj.gone, AObj.gone, AObj.arr (g + 1) 2 false (encs (v ++ [(Prod.fst x8, tk 0 (Prod.snd x8))]))] } ex s') ∧ ((¬tk 0 (Prod.snd x8) > (0 : Int)) → RunL P G none 5 (loopAt P 98 0) { env := slots 91 [(0, AV.yl 0), (1, AV.ptr 1 0), (2, AV.ptr 2 0)], H := [jrng, AObj.box [AV.sl 2 false (encs A)], AObj.box [AV.sl 2 false (encs (List.drop 1 B))], AObj.box [AV.lit (Value.func (Fn.func f) { toList := [] } { toList := [] })], AObj.box [AV.own 7 g 0 (List.length v)], AObj.gone, AObj.gone, AObj.arr g 2 false (encs v)] } ex s'))) ∧ ((¬Prod.fst x8 < Prod.fst x6) → (((tk (Prod.snd x6) (Prod.snd x8) > (0 : Int)) → RunL P G none 5 (loopAt P 98 0) { env := slots 91 [(0, AV.yl 0), (1, AV.ptr 1 0), (2, AV.ptr 2 0)], H := [jrng, AObj.box [AV.sl 2 false (encs (List.drop 1 A))], AObj.box [AV.sl 2 false (encs (List.drop 1 B))], AObj.box [AV.lit (Value.func (Fn.func f) { toList := [] } { toList := [] })], AObj.box [AV.own 7 (g + 1) 0 (List.length (v ++ [(Prod.fst x6, tk (Prod.snd x6) (Prod.snd x8))]))], AObj.gone, AObj.gone, AObj.arr (g + 1) 2 false (encs (v ++ [(Prod.fst x6, tk (Prod.snd x6) (Prod.snd x8))]))] } ex s') ∧ ((¬tk (Prod.snd x6) (Prod.snd x8) > (0 : Int)) → RunL P G none 5 (loopAt P 98 0) { env := slots 91 [(0, AV.yl 0), (1, AV.ptr 1 0), (2, AV.ptr 2 0)], H := [jrng, AObj.box [AV.sl 2 false (encs (List.drop 1 A))], AObj.box [AV.sl 2 false (encs (List.drop 1 B))], AObj.box [AV.lit (Value.func (Fn.func f) { toList := [] } { toList := [] })], AObj.box [AV.own 7 g 0 (List.length v)], AObj.gone, AObj.gone, AObj.arr g 2 false (encs v)] } ex s'))))))))))) ∧ ((¬(↑(List.length A) : Int) > (0 : Int)) → ((((↑(List.length B) : Int) > (0 : Int)) → (∃ x19 : D, (B[0]? = some x19) ∧ (((tk 0 (Prod.snd x19) > (0 : Int)) → RunL P G none 5 (loopAt P 98 0) { env := slots 91 [(0, AV.yl 0), (1, AV.ptr 1 0), (2, AV.ptr 2 0)], H := [jrng, AObj.box [AV.sl 2 false (encs A)], AObj.box [AV.sl 2 false (encs (List.drop 1 B))], AObj.box [AV.lit (Value.func (Fn.func f) { toList := [] } { toList := [] })], AObj.box [AV.own 7 (g + 1) 0 (List.length (v ++ [(Prod.fst x19, tk 0 (Prod.snd x19))]))], AObj.gone, AObj.gone, AObj.arr (g + 1) 2 false (encs (v ++ [(Prod.fst x19, tk 0 (Prod.snd x19))]))] } ex s') ∧ ((¬tk 0 (Prod.snd x19) > (0 : Int)) → RunL P G none 5 (loopAt P 98 0) { env := slots 91 [(0, AV.yl 0), (1, AV.ptr 1 0), (2, AV.ptr 2 0)], H := [jrng, AObj.box [AV.sl 2 false (encs A)], AObj.box [AV.sl 2 false (encs (List.drop 1 B))], AObj.box [AV.lit (Value.func (Fn.func f) { toList := [] } { toList := [] })], AObj.box [AV.own 7 g 0 (List.length v)], AObj.gone, AObj.gone, AObj.arr g 2 false (encs v)] } ex s')))) ∧ ((¬(↑(List.length B) : Int) > (0 : Int)) → (AEx.exit 0 = ex) ∧ ({ env := slots 91 [], H := [jrng, AObj.box [AV.sl 2 false (encs A)], AObj.box [AV.sl 2 false (encs B)], AObj.box [AV.lit (Value.func (Fn.func f) { toList := [] } { toList := [] })], AObj.box [AV.own 7 g 0 (List.length v)], AObj.gone, AObj.gone, AObj.arr g 2 false (encs v)] } = s')))))) : RunL P G none 5 (loopAt P 98 0) (plSt1 f A B g v) ex s' := by
  have hz0 : Am.Sub (int (↑(List.length (encs A)) : Int)) (int (↑(List.length A) : Int)) := (Sub.of_eq (by simp only [Go.Vec.encs_length]))
  have hz8 : ∀ (x : List AV), x ∈ encs v → AV.idsInL [] x = true := (Go.Vec.encs_ids _)
  by_cases c1 : ((↑(List.length A) : Int) > (0 : Int))
  · have h := h.1 c1
    have hz1 : Am.Sub (int (↑(List.length (encs B)) : Int)) (int (↑(List.length B) : Int)) := (Sub.of_eq (by simp only [Go.Vec.encs_length]))
    by_cases c2 : ((↑(List.length B) : Int) = (0 : Int))
    · have h := h.1 c2
      obtain ⟨x3, o4, h⟩ := h
      have hz2 : (0 : Int) ≤ (0 : Int) ∧ (encs A)[Int.toNat 0]? = some (enc x3) := (el_nat o4)
      have hz3 : Am.Sub (AV.sl 2 false (List.drop 1 (List.take (Int.toNat (↑(List.length (encs A)) : Int)) (encs A)))) (AV.sl 2 false (encs (List.drop 1 A))) := (Sub.of_eq (by simp only [Go.Vec.encs_length, Go.Vec.encs_drop, Go.Vec.encs_take, Int.toNat_natCast, List.take_length]))
      have hz4 : (0 : Int) ≤ (1 : Int) ∧ (1 : Int) ≤ (↑(List.length (encs A)) : Int) ∧ (↑(List.length (encs A)) : Int) ≤ (↑(List.length (encs A)) : Int) := (by rw [Go.Vec.encs_length]; omega)
      by_cases c5 : (tk (Prod.snd x3) 0 > (0 : Int))
      · have h := h.1 c5
        exact loop_next [kv 6 hz0, kt (decide_eq_true c1), kt (Eq.refl true), kv 32 hz1, kt (beq_iff_eq.2 c2), kt (Eq.refl true), ko (Orc.elem (enc x3)), ko (Orc.elem (enc x3)), kp hz2, kp hz2, kv 60 hz3, ko (Orc.call [] (AOut.ret (Am.bool true)) (q1 f (List.drop 1 A) B (g + 1) (v ++ [(Prod.fst x3, tk (Prod.snd x3) 0)]) ++ [AObj.box [int (Prod.fst x3), int (Prod.snd x3), int 0]])), kp hz4, kp (show YieldC P G 0 [AV.agg [int (Prod.fst x3), int (Prod.snd x3), int 0]] [jrng, AObj.box [AV.sl 2 false (encs (List.drop 1 A))], AObj.box [AV.sl 2 false (encs B)], AObj.box [AV.lit (Value.func (Fn.func f) { toList := [] } { toList := [] })], AObj.box [AV.own 7 g 0 (List.length v)], AObj.gone, AObj.gone, AObj.arr g 2 false (encs v), AObj.box [int (Prod.fst x3), int (Prod.snd x3), int 0]] true [jrng, AObj.box [AV.sl 2 false (encs (List.drop 1 A))], AObj.box [AV.sl 2 false (encs B)], AObj.box [AV.lit (Value.func (Fn.func f) { toList := [] } { toList := [] })], AObj.box [AV.own 7 (g + 1) 0 (List.length (v ++ [(Prod.fst x3, tk (Prod.snd x3) 0)]))], AObj.gone, AObj.gone, AObj.arr (g + 1) 2 false (encs (v ++ [(Prod.fst x3, tk (Prod.snd x3) 0)])), AObj.box [int (Prod.fst x3), int (Prod.snd x3), int 0]] from (by have h0 := (@hy (List.drop 1 A) (B) (v) (g) (Prod.fst x3) (Prod.snd x3) (0) (by omega)); simp only [if_pos c5] at h0; exact h0)), kf (Eq.refl false), kp (show ∀ (x : List AV), x ∈ encs (v ++ [(Prod.fst x3, tk (Prod.snd x3) 0)]) → AV.idsInL [] x = true from (Go.Vec.encs_ids _))] (others 91 [0, 1, 2]) 8 h (by kernel_rfl)
      · have h := h.2 c5
        exact loop_next [kv 6 hz0, kt (decide_eq_true c1), kt (Eq.refl true), kv 32 hz1, kt (beq_iff_eq.2 c2), kt (Eq.refl true), ko (Orc.elem (enc x3)), ko (Orc.elem (enc x3)), kp hz2, kp hz2, kv 60 hz3, ko (Orc.call [] (AOut.ret (Am.bool true)) (q1 f (List.drop 1 A) B g v ++ [AObj.box [int (Prod.fst x3), int (Prod.snd x3), int 0]])), kp hz4, kp (show YieldC P G 0 [AV.agg [int (Prod.fst x3), int (Prod.snd x3), int 0]] [jrng, AObj.box [AV.sl 2 false (encs (List.drop 1 A))], AObj.box [AV.sl 2 false (encs B)], AObj.box [AV.lit (Value.func (Fn.func f) { toList := [] } { toList := [] })], AObj.box [AV.own 7 g 0 (List.length v)], AObj.gone, AObj.gone, AObj.arr g 2 false (encs v), AObj.box [int (Prod.fst x3), int (Prod.snd x3), int 0]] true [jrng, AObj.box [AV.sl 2 false (encs (List.drop 1 A))], AObj.box [AV.sl 2 false (encs B)], AObj.box [AV.lit (Value.func (Fn.func f) { toList := [] } { toList := [] })], AObj.box [AV.own 7 g 0 (List.length v)], AObj.gone, AObj.gone, AObj.arr g 2 false (encs v), AObj.box [int (Prod.fst x3), int (Prod.snd x3), int 0]] from (by have h0 := (@hy (List.drop 1 A) (B) (v) (g) (Prod.fst x3) (Prod.snd x3) (0) (by omega)); simp only [if_neg c5] at h0; exact h0)), kf (Eq.refl false), kp hz8] (others 91 [0, 1, 2]) 8 h (by kernel_rfl)
    · have h := h.2 c2
      obtain ⟨x6, o7, h⟩ := h
      have hz9 : (0 : Int) ≤ (0 : Int) ∧ (encs A)[Int.toNat 0]? = some (enc x6) := (el_nat o7)
      obtain ⟨x8, o9, h⟩ := h
      have hz10 : (0 : Int) ≤ (0 : Int) ∧ (encs B)[Int.toNat 0]? = some (enc x8) := (el_nat o9)
      by_cases c10 : (Prod.fst x6 < Prod.fst x8)
      · have h := h.1 c10
        by_cases c11 : (tk (Prod.snd x6) 0 > (0 : Int))
        · have h := h.1 c11
          exact loop_next [kv 6 hz0, kt (decide_eq_true c1), kt (Eq.refl true), kv 32 hz1, kf (beq_eq_false_iff_ne.2 c2), kv 36 hz0, kt (decide_eq_true c1), ko (Orc.elem (enc x6)), ko (Orc.elem (enc x8)), kp hz9, kp hz10, kt (decide_eq_true c10), ko (Orc.elem (enc x6)), ko (Orc.elem (enc x6)), kp hz9, kp hz9, kv 60 (show Am.Sub (AV.sl 2 false (List.drop 1 (List.take (Int.toNat (↑(List.length (encs A)) : Int)) (encs A)))) (AV.sl 2 false (encs (List.drop 1 A))) from (Sub.of_eq (by simp only [Go.Vec.encs_length, Go.Vec.encs_drop, Go.Vec.encs_take, Int.toNat_natCast, List.take_length]))), ko (Orc.call [] (AOut.ret (Am.bool true)) (q1 f (List.drop 1 A) B (g + 1) (v ++ [(Prod.fst x6, tk (Prod.snd x6) 0)]) ++ [AObj.box [int (Prod.fst x6), int (Prod.snd x6), int 0]])), kp (show (0 : Int) ≤ (1 : Int) ∧ (1 : Int) ≤ (↑(List.length (encs A)) : Int) ∧ (↑(List.length (encs A)) : Int) ≤ (↑(List.length (encs A)) : Int) from (by rw [Go.Vec.encs_length]; omega)), kp (show YieldC P G 0 [AV.agg [int (Prod.fst x6), int (Prod.snd x6), int 0]] [jrng, AObj.box [AV.sl 2 false (encs (List.drop 1 A))], AObj.box [AV.sl 2 false (encs B)], AObj.box [AV.lit (Value.func (Fn.func f) { toList := [] } { toList := [] })], AObj.box [AV.own 7 g 0 (List.length v)], AObj.gone, AObj.gone, AObj.arr g 2 false (encs v), AObj.box [int (Prod.fst x6), int (Prod.snd x6), int 0]] true [jrng, AObj.box [AV.sl 2 false (encs (List.drop 1 A))], AObj.box [AV.sl 2 false (encs B)], AObj.box [AV.lit (Value.func (Fn.func f) { toList := [] } { toList := [] })], AObj.box [AV.own 7 (g + 1) 0 (List.length (v ++ [(Prod.fst x6, tk (Prod.snd x6) 0)]))], AObj.gone, AObj.gone, AObj.arr (g + 1) 2 false (encs (v ++ [(Prod.fst x6, tk (Prod.snd x6) 0)])), AObj.box [int (Prod.fst x6), int (Prod.snd x6), int 0]] from (by have h0 := (@hy (List.drop 1 A) (B) (v) (g) (Prod.fst x6) (Prod.snd x6) (0) (by omega)); simp only [if_pos c11] at h0; exact h0)), kf (Eq.refl false), kp (show ∀ (x : List AV), x ∈ encs (v ++ [(Prod.fst x6, tk (Prod.snd x6) 0)]) → AV.idsInL [] x = true from (Go.Vec.encs_ids _))] (others 91 [0, 1, 2]) 8 h (by kernel_rfl)
        · have h := h.2 c11
          exact loop_next [kv 6 hz0, kt (decide_eq_true c1), kt (Eq.refl true), kv 32 hz1, kf (beq_eq_false_iff_ne.2 c2), kv 36 hz0, kt (decide_eq_true c1), ko (Orc.elem (enc x6)), ko (Orc.elem (enc x8)), kp hz9, kp hz10, kt (decide_eq_true c10), ko (Orc.elem (enc x6)), ko (Orc.elem (enc x6)), kp hz9, kp hz9, kv 60 (show Am.Sub (AV.sl 2 false (List.drop 1 (List.take (Int.toNat (↑(List.length (encs A)) : Int)) (encs A)))) (AV.sl 2 false (encs (List.drop 1 A))) from (Sub.of_eq (by simp only [Go.Vec.encs_length, Go.Vec.encs_drop, Go.Vec.encs_take, Int.toNat_natCast, List.take_length]))), ko (Orc.call [] (AOut.ret (Am.bool true)) (q1 f (List.drop 1 A) B g v ++ [AObj.box [int (Prod.fst x6), int (Prod.snd x6), int 0]])), kp (show (0 : Int) ≤ (1 : Int) ∧ (1 : Int) ≤ (↑(List.length (encs A)) : Int) ∧ (↑(List.length (encs A)) : Int) ≤ (↑(List.length (encs A)) : Int) from (by rw [Go.Vec.encs_length]; omega)), kp (show YieldC P G 0 [AV.agg [int (Prod.fst x6), int (Prod.snd x6), int 0]] [jrng, AObj.box [AV.sl 2 false (encs (List.drop 1 A))], AObj.box [AV.sl 2 false (encs B)], AObj.box [AV.lit (Value.func (Fn.func f) { toList := [] } { toList := [] })], AObj.box [AV.own 7 g 0 (List.length v)], AObj.gone, AObj.gone, AObj.arr g 2 false (encs v), AObj.box [int (Prod.fst x6), int (Prod.snd x6), int 0]] true [jrng, AObj.box [AV.sl 2 false (encs (List.drop 1 A))], AObj.box [AV.sl 2 false (encs B)], AObj.box [AV.lit (Value.func (Fn.func f) { toList := [] } { toList := [] })], AObj.box [AV.own 7 g 0 (List.length v)], AObj.gone, AObj.gone, AObj.arr g 2 false (encs v), AObj.box [int (Prod.fst x6), int (Prod.snd x6), int 0]] from (by have h0 := (@hy (List.drop 1 A) (B) (v) (g) (Prod.fst x6) (Prod.snd x6) (0) (by omega)); simp only [if_neg c11] at h0; exact h0)), kf (Eq.refl false), kp hz8] (others 91 [0, 1, 2]) 8 h (by kernel_rfl)
      · have h := h.2 c10
        have hz14 : ((↑(List.length A) : Int) == 0) = false := (decide_eq_false (by omega))
        by_cases c13 : (Prod.fst x8 < Prod.fst x6)
        · have h := h.1 c13
          have hz15 : Am.Sub (AV.sl 2 false (List.drop 1 (List.take (Int.toNat (↑(List.length (encs B)) : Int)) (encs B)))) (AV.sl 2 false (encs (List.drop 1 B))) := (Sub.of_eq (by simp only [Go.Vec.encs_length, Go.Vec.encs_drop, Go.Vec.encs_take, Int.toNat_natCast, List.take_length]))
          have hz16 : (0 : Int) ≤ (1 : Int) ∧ (1 : Int) ≤ (↑(List.length (encs B)) : Int) ∧ (↑(List.length (encs B)) : Int) ≤ (↑(List.length (encs B)) : Int) := (by rw [Go.Vec.encs_length]; omega)
          by_cases c14 : (tk 0 (Prod.snd x8) > (0 : Int))
          · have h := h.1 c14
            exact loop_next [kv 6 hz0, kt (decide_eq_true c1), kt (Eq.refl true), kv 32 hz1, kf (beq_eq_false_iff_ne.2 c2), kv 36 hz0, kt (decide_eq_true c1), ko (Orc.elem (enc x6)), ko (Orc.elem (enc x8)), kp hz9, kp hz10, kf (decide_eq_false c10), kv 63 hz0, kf hz14, ko (Orc.elem (enc x8)), ko (Orc.elem (enc x6)), kp hz10, kp hz9, kt (decide_eq_true c13), ko (Orc.elem (enc x8)), ko (Orc.elem (enc x8)), kp hz10, kp hz10, kv 86 hz15, ko (Orc.call [] (AOut.ret (Am.bool true)) (q1 f A (List.drop 1 B) (g + 1) (v ++ [(Prod.fst x8, tk 0 (Prod.snd x8))]) ++ [AObj.box [int (Prod.fst x8), int 0, int (Prod.snd x8)]])), kp hz16, kp (show YieldC P G 0 [AV.agg [int (Prod.fst x8), int 0, int (Prod.snd x8)]] [jrng, AObj.box [AV.sl 2 false (encs A)], AObj.box [AV.sl 2 false (encs (List.drop 1 B))], AObj.box [AV.lit (Value.func (Fn.func f) { toList := [] } { toList := [] })], AObj.box [AV.own 7 g 0 (List.length v)], AObj.gone, AObj.gone, AObj.arr g 2 false (encs v), AObj.box [int (Prod.fst x8), int 0, int (Prod.snd x8)]] true [jrng, AObj.box [AV.sl 2 false (encs A)], AObj.box [AV.sl 2 false (encs (List.drop 1 B))], AObj.box [AV.lit (Value.func (Fn.func f) { toList := [] } { toList := [] })], AObj.box [AV.own 7 (g + 1) 0 (List.length (v ++ [(Prod.fst x8, tk 0 (Prod.snd x8))]))], AObj.gone, AObj.gone, AObj.arr (g + 1) 2 false (encs (v ++ [(Prod.fst x8, tk 0 (Prod.snd x8))])), AObj.box [int (Prod.fst x8), int 0, int (Prod.snd x8)]] from (by have h0 := (@hy (A) (List.drop 1 B) (v) (g) (Prod.fst x8) (0) (Prod.snd x8) (by omega)); simp only [if_pos c14] at h0; exact h0)), kf (Eq.refl false), kp (show ∀ (x : List AV), x ∈ encs (v ++ [(Prod.fst x8, tk 0 (Prod.snd x8))]) → AV.idsInL [] x = true from (Go.Vec.encs_ids _))] (others 91 [0, 1, 2]) 8 h (by kernel_rfl)
          · have h := h.2 c14
            exact loop_next [kv 6 hz0, kt (decide_eq_true c1), kt (Eq.refl true), kv 32 hz1, kf (beq_eq_false_iff_ne.2 c2), kv 36 hz0, kt (decide_eq_true c1), ko (Orc.elem (enc x6)), ko (Orc.elem (enc x8)), kp hz9, kp hz10, kf (decide_eq_false c10), kv 63 hz0, kf hz14, ko (Orc.elem (enc x8)), ko (Orc.elem (enc x6)), kp hz10, kp hz9, kt (decide_eq_true c13), ko (Orc.elem (enc x8)), ko (Orc.elem (enc x8)), kp hz10, kp hz10, kv 86 hz15, ko (Orc.call [] (AOut.ret (Am.bool true)) (q1 f A (List.drop 1 B) g v ++ [AObj.box [int (Prod.fst x8), int 0, int (Prod.snd x8)]])), kp hz16, kp (show YieldC P G 0 [AV.agg [int (Prod.fst x8), int 0, int (Prod.snd x8)]] [jrng, AObj.box [AV.sl 2 false (encs A)], AObj.box [AV.sl 2 false (encs (List.drop 1 B))], AObj.box [AV.lit (Value.func (Fn.func f) { toList := [] } { toList := [] })], AObj.box [AV.own 7 g 0 (List.length v)], AObj.gone, AObj.gone, AObj.arr g 2 false (encs v), AObj.box [int (Prod.fst x8), int 0, int (Prod.snd x8)]] true [jrng, AObj.box [AV.sl 2 false (encs A)], AObj.box [AV.sl 2 false (encs (List.drop 1 B))], AObj.box [AV.lit (Value.func (Fn.func f) { toList := [] } { toList := [] })], AObj.box [AV.own 7 g 0 (List.length v)], AObj.gone, AObj.gone, AObj.arr g 2 false (encs v), AObj.box [int (Prod.fst x8), int 0, int (Prod.snd x8)]] from (by have h0 := (@hy (A) (List.drop 1 B) (v) (g) (Prod.fst x8) (0) (Prod.snd x8) (by omega)); simp only [if_neg c14] at h0; exact h0)), kf (Eq.refl false), kp hz8] (others 91 [0, 1, 2]) 8 h (by kernel_rfl)
        · have h := h.2 c13
          have hz15 : Am.Sub (AV.sl 2 false (List.drop 1 (List.take (Int.toNat (↑(List.length (encs B)) : Int)) (encs B)))) (AV.sl 2 false (encs (List.drop 1 B))) := (Sub.of_eq (by simp only [Go.Vec.encs_length, Go.Vec.encs_drop, Go.Vec.encs_take, Int.toNat_natCast, List.take_length]))
          have hz16 : (0 : Int) ≤ (1 : Int) ∧ (1 : Int) ≤ (↑(List.length (encs B)) : Int) ∧ (↑(List.length (encs B)) : Int) ≤ (↑(List.length (encs B)) : Int) := (by rw [Go.Vec.encs_length]; omega)
          by_cases c15 : (tk (Prod.snd x6) (Prod.snd x8) > (0 : Int))
          · have h := h.1 c15
            exact loop_next [kv 6 hz0, kt (decide_eq_true c1), kt (Eq.refl true), kv 32 hz1, kf (beq_eq_false_iff_ne.2 c2), kv 36 hz0, kt (decide_eq_true c1), ko (Orc.elem (enc x6)), ko (Orc.elem (enc x8)), kp hz9, kp hz10, kf (decide_eq_false c10), kv 63 hz0, kf hz14, ko (Orc.elem (enc x8)), ko (Orc.elem (enc x6)), kp hz10, kp hz9, kf (decide_eq_false c13), ko (Orc.elem (enc x6)), ko (Orc.elem (enc x6)), ko (Orc.elem (enc x8)), kp hz9, kp hz9, kp hz10, kv 27 (show Am.Sub (AV.sl 2 false (List.drop 1 (List.take (Int.toNat (↑(List.length (encs A)) : Int)) (encs A)))) (AV.sl 2 false (encs (List.drop 1 A))) from (Sub.of_eq (by simp only [Go.Vec.encs_length, Go.Vec.encs_drop, Go.Vec.encs_take, Int.toNat_natCast, List.take_length]))), kp (show (0 : Int) ≤ (1 : Int) ∧ (1 : Int) ≤ (↑(List.length (encs A)) : Int) ∧ (↑(List.length (encs A)) : Int) ≤ (↑(List.length (encs A)) : Int) from (by rw [Go.Vec.encs_length]; omega)), kv 29 hz15, ko (Orc.call [] (AOut.ret (Am.bool true)) (q1 f (List.drop 1 A) (List.drop 1 B) (g + 1) (v ++ [(Prod.fst x6, tk (Prod.snd x6) (Prod.snd x8))]) ++ [AObj.box [int (Prod.fst x6), int (Prod.snd x6), int (Prod.snd x8)]])), kp hz16, kp (show YieldC P G 0 [AV.agg [int (Prod.fst x6), int (Prod.snd x6), int (Prod.snd x8)]] [jrng, AObj.box [AV.sl 2 false (encs (List.drop 1 A))], AObj.box [AV.sl 2 false (encs (List.drop 1 B))], AObj.box [AV.lit (Value.func (Fn.func f) { toList := [] } { toList := [] })], AObj.box [AV.own 7 g 0 (List.length v)], AObj.gone, AObj.gone, AObj.arr g 2 false (encs v), AObj.box [int (Prod.fst x6), int (Prod.snd x6), int (Prod.snd x8)]] true [jrng, AObj.box [AV.sl 2 false (encs (List.drop 1 A))], AObj.box [AV.sl 2 false (encs (List.drop 1 B))], AObj.box [AV.lit (Value.func (Fn.func f) { toList := [] } { toList := [] })], AObj.box [AV.own 7 (g + 1) 0 (List.length (v ++ [(Prod.fst x6, tk (Prod.snd x6) (Prod.snd x8))]))], AObj.gone, AObj.gone, AObj.arr (g + 1) 2 false (encs (v ++ [(Prod.fst x6, tk (Prod.snd x6) (Prod.snd x8))])), AObj.box [int (Prod.fst x6), int (Prod.snd x6), int (Prod.snd x8)]] from (by have h0 := (@hy (List.drop 1 A) (List.drop 1 B) (v) (g) (Prod.fst x6) (Prod.snd x6) (Prod.snd x8) (by omega)); simp only [if_pos c15] at h0; exact h0)), kf (Eq.refl false), kp (show ∀ (x : List AV), x ∈ encs (v ++ [(Prod.fst x6, tk (Prod.snd x6) (Prod.snd x8))]) → AV.idsInL [] x = true from (Go.Vec.encs_ids _))] (others 91 [0, 1, 2]) 8 h (by kernel_rfl)
          · have h := h.2 c15
            exact loop_next [kv 6 hz0, kt (decide_eq_true c1), kt (Eq.refl true), kv 32 hz1, kf (beq_eq_false_iff_ne.2 c2), kv 36 hz0, kt (decide_eq_true c1), ko (Orc.elem (enc x6)), ko (Orc.elem (enc x8)), kp hz9, kp hz10, kf (decide_eq_false c10), kv 63 hz0, kf hz14, ko (Orc.elem (enc x8)), ko (Orc.elem (enc x6)), kp hz10, kp hz9, kf (decide_eq_false c13), ko (Orc.elem (enc x6)), ko (Orc.elem (enc x6)), ko (Orc.elem (enc x8)), kp hz9, kp hz9, kp hz10, kv 27 (show Am.Sub (AV.sl 2 false (List.drop 1 (List.take (Int.toNat (↑(List.length (encs A)) : Int)) (encs A)))) (AV.sl 2 false (encs (List.drop 1 A))) from (Sub.of_eq (by simp only [Go.Vec.encs_length, Go.Vec.encs_drop, Go.Vec.encs_take, Int.toNat_natCast, List.take_length]))), kp (show (0 : Int) ≤ (1 : Int) ∧ (1 : Int) ≤ (↑(List.length (encs A)) : Int) ∧ (↑(List.length (encs A)) : Int) ≤ (↑(List.length (encs A)) : Int) from (by rw [Go.Vec.encs_length]; omega)), kv 29 hz15, ko (Orc.call [] (AOut.ret (Am.bool true)) (q1 f (List.drop 1 A) (List.drop 1 B) g v ++ [AObj.box [int (Prod.fst x6), int (Prod.snd x6), int (Prod.snd x8)]])), kp hz16, kp (show YieldC P G 0 [AV.agg [int (Prod.fst x6), int (Prod.snd x6), int (Prod.snd x8)]] [jrng, AObj.box [AV.sl 2 false (encs (List.drop 1 A))], AObj.box [AV.sl 2 false (encs (List.drop 1 B))], AObj.box [AV.lit (Value.func (Fn.func f) { toList := [] } { toList := [] })], AObj.box [AV.own 7 g 0 (List.length v)], AObj.gone, AObj.gone, AObj.arr g 2 false (encs v), AObj.box [int (Prod.fst x6), int (Prod.snd x6), int (Prod.snd x8)]] true [jrng, AObj.box [AV.sl 2 false (encs (List.drop 1 A))], AObj.box [AV.sl 2 false (encs (List.drop 1 B))], AObj.box [AV.lit (Value.func (Fn.func f) { toList := [] } { toList := [] })], AObj.box [AV.own 7 g 0 (List.length v)], AObj.gone, AObj.gone, AObj.arr g 2 false (encs v), AObj.box [int (Prod.fst x6), int (Prod.snd x6), int (Prod.snd x8)]] from (by have h0 := (@hy (List.drop 1 A) (List.drop 1 B) (v) (g) (Prod.fst x6) (Prod.snd x6) (Prod.snd x8) (by omega)); simp only [if_neg c15] at h0; exact h0)), kf (Eq.refl false), kp hz8] (others 91 [0, 1, 2]) 8 h (by kernel_rfl)
  · have h := h.2 c1
    have hz1 : Am.Sub (int (↑(List.length (encs B)) : Int)) (int (↑(List.length B) : Int)) := (Sub.of_eq (by simp only [Go.Vec.encs_length]))
    by_cases c16 : ((↑(List.length B) : Int) > (0 : Int))
    · have h := h.1 c16
      have hz23 : ((↑(List.length B) : Int) == 0) = false := (decide_eq_false (by omega))
      have hz24 : ((↑(List.length A) : Int) == 0) = true := (decide_eq_true (by omega))
      obtain ⟨x19, o20, h⟩ := h
      have hz25 : (0 : Int) ≤ (0 : Int) ∧ (encs B)[Int.toNat 0]? = some (enc x19) := (el_nat o20)
      by_cases c21 : (tk 0 (Prod.snd x19) > (0 : Int))
      · have h := h.1 c21
        exact loop_next [kv 6 hz0, kf (decide_eq_false c1), kv 10 hz1, kt (decide_eq_true c16), kv 32 hz1, kf hz23, kv 36 hz0, kf (decide_eq_false c1), kf (Eq.refl false), kv 63 hz0, kt hz24, kt (Eq.refl true), ko (Orc.elem (enc x19)), ko (Orc.elem (enc x19)), kp hz25, kp hz25, kv 86 (show Am.Sub (AV.sl 2 false (List.drop 1 (List.take (Int.toNat (↑(List.length (encs B)) : Int)) (encs B)))) (AV.sl 2 false (encs (List.drop 1 B))) from (Sub.of_eq (by simp only [Go.Vec.encs_length, Go.Vec.encs_drop, Go.Vec.encs_take, Int.toNat_natCast, List.take_length]))), ko (Orc.call [] (AOut.ret (Am.bool true)) (q1 f A (List.drop 1 B) (g + 1) (v ++ [(Prod.fst x19, tk 0 (Prod.snd x19))]) ++ [AObj.box [int (Prod.fst x19), int 0, int (Prod.snd x19)]])), kp (show (0 : Int) ≤ (1 : Int) ∧ (1 : Int) ≤ (↑(List.length (encs B)) : Int) ∧ (↑(List.length (encs B)) : Int) ≤ (↑(List.length (encs B)) : Int) from (by rw [Go.Vec.encs_length]; omega)), kp (show YieldC P G 0 [AV.agg [int (Prod.fst x19), int 0, int (Prod.snd x19)]] [jrng, AObj.box [AV.sl 2 false (encs A)], AObj.box [AV.sl 2 false (encs (List.drop 1 B))], AObj.box [AV.lit (Value.func (Fn.func f) { toList := [] } { toList := [] })], AObj.box [AV.own 7 g 0 (List.length v)], AObj.gone, AObj.gone, AObj.arr g 2 false (encs v), AObj.box [int (Prod.fst x19), int 0, int (Prod.snd x19)]] true [jrng, AObj.box [AV.sl 2 false (encs A)], AObj.box [AV.sl 2 false (encs (List.drop 1 B))], AObj.box [AV.lit (Value.func (Fn.func f) { toList := [] } { toList := [] })], AObj.box [AV.own 7 (g + 1) 0 (List.length (v ++ [(Prod.fst x19, tk 0 (Prod.snd x19))]))], AObj.gone, AObj.gone, AObj.arr (g + 1) 2 false (encs (v ++ [(Prod.fst x19, tk 0 (Prod.snd x19))])), AObj.box [int (Prod.fst x19), int 0, int (Prod.snd x19)]] from (by have h0 := (@hy (A) (List.drop 1 B) (v) (g) (Prod.fst x19) (0) (Prod.snd x19) (by omega)); simp only [if_pos c21] at h0; exact h0)), kf (Eq.refl false), kp (show ∀ (x : List AV), x ∈ encs (v ++ [(Prod.fst x19, tk 0 (Prod.snd x19))]) → AV.idsInL [] x = true from (Go.Vec.encs_ids _))] (others 91 [0, 1, 2]) 8 h (by kernel_rfl)
      · have h := h.2 c21
        exact loop_next [kv 6 hz0, kf (decide_eq_false c1), kv 10 hz1, kt (decide_eq_true c16), kv 32 hz1, kf hz23, kv 36 hz0, kf (decide_eq_false c1), kf (Eq.refl false), kv 63 hz0, kt hz24, kt (Eq.refl true), ko (Orc.elem (enc x19)), ko (Orc.elem (enc x19)), kp hz25, kp hz25, kv 86 (show Am.Sub (AV.sl 2 false (List.drop 1 (List.take (Int.toNat (↑(List.length (encs B)) : Int)) (encs B)))) (AV.sl 2 false (encs (List.drop 1 B))) from (Sub.of_eq (by simp only [Go.Vec.encs_length, Go.Vec.encs_drop, Go.Vec.encs_take, Int.toNat_natCast, List.take_length]))), ko (Orc.call [] (AOut.ret (Am.bool true)) (q1 f A (List.drop 1 B) g v ++ [AObj.box [int (Prod.fst x19), int 0, int (Prod.snd x19)]])), kp (show (0 : Int) ≤ (1 : Int) ∧ (1 : Int) ≤ (↑(List.length (encs B)) : Int) ∧ (↑(List.length (encs B)) : Int) ≤ (↑(List.length (encs B)) : Int) from (by rw [Go.Vec.encs_length]; omega)), kp (show YieldC P G 0 [AV.agg [int (Prod.fst x19), int 0, int (Prod.snd x19)]] [jrng, AObj.box [AV.sl 2 false (encs A)], AObj.box [AV.sl 2 false (encs (List.drop 1 B))], AObj.box [AV.lit (Value.func (Fn.func f) { toList := [] } { toList := [] })], AObj.box [AV.own 7 g 0 (List.length v)], AObj.gone, AObj.gone, AObj.arr g 2 false (encs v), AObj.box [int (Prod.fst x19), int 0, int (Prod.snd x19)]] true [jrng, AObj.box [AV.sl 2 false (encs A)], AObj.box [AV.sl 2 false (encs (List.drop 1 B))], AObj.box [AV.lit (Value.func (Fn.func f) { toList := [] } { toList := [] })], AObj.box [AV.own 7 g 0 (List.length v)], AObj.gone, AObj.gone, AObj.arr g 2 false (encs v), AObj.box [int (Prod.fst x19), int 0, int (Prod.snd x19)]] from (by have h0 := (@hy (A) (List.drop 1 B) (v) (g) (Prod.fst x19) (0) (Prod.snd x19) (by omega)); simp only [if_neg c21] at h0; exact h0)), kf (Eq.refl false), kp hz8] (others 91 [0, 1, 2]) 8 h (by kernel_rfl)
    · have h := h.2 c16
      obtain ⟨eX, eS⟩ := h
      exact RunL.to ((show RunL P G none 5 (loopAt P 98 0) (plSt1 f A B g v) (AEx.exit 0) { env := slots 91 [], H := [jrng, AObj.box [AV.sl 2 false (encs A)], AObj.box [AV.sl 2 false (encs B)], AObj.box [AV.lit (Value.func (Fn.func f) { toList := [] } { toList := [] })], AObj.box [AV.own 7 g 0 (List.length v)], AObj.gone, AObj.gone, AObj.arr g 2 false (encs v)] } from loop_exit [kv 6 hz0, kf (decide_eq_false c1), kv 10 hz1, kf (decide_eq_false c16)] (others 91 []) 8 (by kernel_rfl))) eX (SubS.of_eq eS)


end Go.Vec
