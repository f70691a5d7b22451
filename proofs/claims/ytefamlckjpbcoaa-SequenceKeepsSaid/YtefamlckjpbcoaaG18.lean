import Derived.Test.YtefamlckjpbcoaaG17
import Derived.KernelRfl
/- SEQUENCE, 47: the law Keeps, walked to its end, at the borders. -/
namespace Go.Sq
set_option maxRecDepth 100000
set_option linter.unusedSimpArgs false
set_option linter.unusedVariables false
open Go Go.Am Go.Proofs Go.Seat

theorem kp_2 (l r x : List CE) (c : CE) (at_ : Nat) (b o : Bool) (pr : Int) (hcc : (c.dv == c.dv && (c.sq == c.sq && (c.at' == c.at' && (c.ad == c.ad && (c.as' == c.as' && (c.aa == c.aa && (c.tm == c.tm && (c.vl == c.vl && c.gn == c.gn)))))))) = true) (hx : x[at_]? = some c) (hlt : at_ < x.length) (hxl : x.length ≤ 41) (hr : r.length ≤ 40) (he1 : ¬ encs (List.take at_ x) = []) (he2 : encs (List.drop (at_ + 1) x) = []) (hf : CallC P G 12 [ces l] [] (.ret (bool true)) []) (h1 : CallC P G 13 [ces l] [] (.ret (.tup [ces r, int 0])) []) (h2 : CallC P G 18 [ces r, cel c] [] (.ret (.tup [ces x, int 0])) []) (h3 : CallC P G 22 [ces x, ida c.dv c.sq c.at'] [] (.ret (.tup [int at_, bool true])) []) (hT : CallC P G 15 [.own 0 1 0 (List.length (List.take at_ x) + List.length (List.drop (at_ + 1) x)), ces r] [.arr 1 9 false (encs (List.take at_ x) ++ encs (List.drop (at_ + 1) x))] (.ret (bool true)) [.arr 1 9 true (encs (List.take at_ x) ++ encs (List.drop (at_ + 1) x))]) (hP : CallC P G 22 [ces r, ida c.ad c.as' c.aa] [] (.ret (.tup [int pr, bool o])) []) (hL : RunL P G none 0 (loopAt P 8 0) (kpS r c at_ 0) (if b = true then .ret else .exit 0) { env := slots 126 [(3, .ptr 0 0), (4, if b = true then bool true else .dead), (5, ces r), (9, int at_)], H := [.box (enc c)] }) (h : (((b = true) → True) ∧ ((¬b = true) → ((((CE.ad c == 0 && (CE.as' c == 0 && CE.aa c == 0)) = true) → ((((↑at_ : Int) = (0 : Int)) → True) ∧ ((¬(↑at_ : Int) = (0 : Int)) → ((((o) = true) → ((↑at_ : Int) == IntKind.wrap IntKind.i64 (pr + 1)) = (true)) ∧ (((o) = false) → (false) = (true)))))) ∧ (((CE.ad c == 0 && (CE.as' c == 0 && CE.aa c == 0)) = false) → ((((o) = true) → ((↑at_ : Int) == IntKind.wrap IntKind.i64 (pr + 1)) = (true)) ∧ (((o) = false) → (false) = (true)))))))) : CallC P G 8 [ces l, cel c] [] (AOut.ret (Am.bool true)) [] := by
  have hz0 := (@Go.Sq.sane_c )
  have hz1 := (@hf )
  have hz2 := (@h1 )
  have hz3 := (@h2 )
  have hz4 := (@h3 )
  have hz5 : Am.Sub (int (↑(List.length (encs x)) : Int)) (int (↑(List.length x) : Int)) := (Sub.of_eq (by simp only [Go.Sq.encs_length]))
  have hz6 : decide ((↑at_ : Int) ≥ (↑(List.length x) : Int)) = false := (decide_eq_false (by omega))
  have hz7 : (0 : Int) ≤ (↑at_ : Int) ∧ (encs x)[Int.toNat (↑at_ : Int)]? = some (enc c) := (el_nat hx)
  have hz8 : (!(CE.dv c == CE.dv c && (CE.sq c == CE.sq c && (CE.at' c == CE.at' c && (CE.ad c == CE.ad c && (CE.as' c == CE.as' c && (CE.aa c == CE.aa c && (CE.tm c == CE.tm c && (CE.vl c == CE.vl c && CE.gn c == CE.gn c))))))))) = false := (congrArg Bool.not (hcc))
  have hz9 : Am.Sub (AV.sl 9 false (List.drop 0 (List.take (Int.toNat (↑at_ : Int)) (encs x)))) (AV.sl 9 false (encs (List.take at_ x))) := (Sub.of_eq (by simp only [Go.Sq.encs_take, Int.toNat_natCast, List.drop_zero]))
  have hz10 : (0 : Int) ≤ (0 : Int) ∧ (0 : Int) ≤ (↑at_ : Int) ∧ (↑at_ : Int) ≤ (↑(List.length (encs x)) : Int) := (by rw [Go.Sq.encs_length]; omega)
  have hz11 : Am.Sub (AV.own 1 0 0 (0 + List.length (encs (List.take at_ x)))) (AV.own 1 0 0 (List.length (List.take at_ x))) := (Sub.of_eq (by simp [Go.Sq.encs_length, Go.Sq.encs_ids, Go.Sq.encs_all, Go.Sq.encs_pure, List.length_drop, List.length_take]))
  have hz12 : (0 + List.length (encs (List.take at_ x))) * 80 ≤ 140737488355328 := (by simp only [List.length_append, List.length_cons, List.length_nil, List.length_map, Go.Sq.encs_length, Go.Sq.encs_ids, Go.Sq.encs_all, Go.Sq.encs_pure, List.length_drop, List.length_take] <;> omega)
  have hz13 : Am.Sub (int (IntKind.wrap IntKind.i64 ((↑at_ : Int) + 1))) (int (↑(at_ + 1) : Int)) := (Sub.of_wrap (by omega) (by omega) (by omega))
  have hz14 : Am.Sub (AV.sl 9 false (List.drop (Int.toNat (↑(at_ + 1) : Int)) (List.take (Int.toNat (↑(List.length (encs x)) : Int)) (encs x)))) (AV.sl 9 false (encs (List.drop (at_ + 1) x))) := (Sub.of_eq (by simp only [Go.Sq.encs_length, Go.Sq.encs_take, Go.Sq.encs_drop, Int.toNat_natCast, List.take_length]))
  have hz15 : (0 : Int) ≤ (↑(at_ + 1) : Int) ∧ (↑(at_ + 1) : Int) ≤ (↑(List.length (encs x)) : Int) ∧ (↑(List.length (encs x)) : Int) ≤ (↑(List.length (encs x)) : Int) := (by rw [Go.Sq.encs_length]; omega)
  have hz16 : Am.Sub (AV.own 1 1 0 (List.length (List.take at_ x) + List.length (encs (List.drop (at_ + 1) x)))) (AV.own 1 1 0 (List.length (List.take at_ x) + List.length (List.drop (at_ + 1) x))) := (Sub.of_eq (by simp only [Go.Sq.encs_length]))
  have hz17 : 0 = 0 := (rfl)
  have hz18 : List.length (List.take at_ x) = List.length (encs (List.take at_ x)) := ((Go.Sq.encs_length _).symm)
  have hz19 : (List.length (List.take at_ x) + List.length (encs (List.drop (at_ + 1) x))) * 80 ≤ 140737488355328 := (by simp only [List.length_append, List.length_cons, List.length_nil, List.length_map, Go.Sq.encs_length, Go.Sq.encs_ids, Go.Sq.encs_all, Go.Sq.encs_pure, List.length_drop, List.length_take] <;> omega)
  have hz20 := (@hT )
  have hz21 : ∀ (x_1 : List AV), x_1 ∈ encs (List.take at_ x) ++ encs (List.drop (at_ + 1) x) → AV.idsInL [] x_1 = true := (by exact (Am.allm_append (Go.Sq.encs_ids _) (Go.Sq.encs_ids _)))
  have hz22 : ∀ (x_1 : List AV), x_1 ∈ chunks (TypeInfo.size (Tables.types (Program.toTables P))[33]) 0 (zerosA (List.map AV.lit (Array.toList (Value.cells (Value.agg #[Value.int IntKind.i64 0, Value.int IntKind.i64 0, Value.int IntKind.i64 0, Value.int IntKind.i64 0, Value.int IntKind.i64 0, Value.int IntKind.i64 0, Value.int IntKind.i64 0, Value.string (ByteArray.mk #[]), Value.bool false])))) (0 * TypeInfo.size (Tables.types (Program.toTables P))[33])) ++ encs (List.take at_ x) ++ encs (List.drop (at_ + 1) x) → AV.idsInL [] x_1 = true := (by exact (Am.allm_append (Go.Sq.encs_ids _) (Go.Sq.encs_ids _)))
  have hz23 : Am.Sub (int (↑(List.length (encs r)) : Int)) (int (↑(List.length r) : Int)) := (Sub.of_eq (by simp only [Go.Sq.encs_length]))
  have hz26 := (@hP )
  by_cases c2 : (b = true)
  · have h := h.1 c2
    have _ := h
    exact callC_of [kc [] hz0, kf (Eq.refl false), kc [] hz1, kf (Eq.refl false), kc [] hz2, kc [] hz3, kf (Eq.refl false), kf (Eq.refl false), kc [] hz4, kf (Eq.refl false), kf (Eq.refl false), kv 59 hz5, kf hz6, ko (Orc.elem (enc c)), kp hz7, kf hz8, kv 74 hz9, kp hz10, kv 75 hz11, kp he1, kp hz12, kv 78 hz13, kv 79 hz14, kp hz15, kv 80 hz16, kp hz17, kp hz18, kp hz19, kc [1] hz20, kp hz21, kp hz22, kf (Eq.refl false), kv 86 hz23, kl [0, 1, 2, 4, 6, 7, 8, 10, 11, 12, 13, 14, 15, 16, 17, 18, 19, 20, 21, 22, 23, 24, 25, 26, 27, 28, 29, 30, 31, 32, 33, 34, 35, 36, 37, 38, 39, 40, 41, 42, 43, 44, 45, 46, 47, 48, 49, 50, 51, 52, 53, 54, 55, 56, 57, 58, 59, 60, 61, 62, 63, 64, 65, 66, 67, 68, 69, 70, 71, 72, 73, 74, 75, 76, 77, 78, 79, 80, 81, 82, 83, 84, 88, 89, 90, 91, 92, 93, 94, 95, 96, 97, 98, 99, 100, 101, 102, 103, 104, 105, 106, 107, 108, 109, 110, 111, 112, 113, 114, 115, 116, 117, 118, 119, 120, 121, 122, 123, 124, 125] 1 (show RunL P G none 0 (loopAt P 8 0) (St.mk (slots 126 [(3, AV.ptr 0 0), (5, AV.sl 9 false (encs r)), (9, int (↑at_ : Int)), (85, AV.sl 9 false (encs r)), (86, int (↑(List.length r) : Int)), (87, int 0)]) [AObj.box [int (CE.dv c), int (CE.sq c), int (CE.at' c), int (CE.ad c), int (CE.as' c), int (CE.aa c), int (CE.tm c), str (CE.vl c), Am.bool (CE.gn c)]] []) AEx.ret (St.mk (slots 126 [(3, AV.ptr 0 0), (4, Am.bool true), (5, AV.sl 9 false (encs r)), (9, int (↑at_ : Int))]) [AObj.box [int (CE.dv c), int (CE.sq c), int (CE.at' c), int (CE.ad c), int (CE.as' c), int (CE.aa c), int (CE.tm c), str (CE.vl c), Am.bool (CE.gn c)]] []) from (by have h0 := (@hL ); simp only [if_pos c2] at h0; exact h0))] (by kernel_rfl)
  · have h := h.2 c2
    have hz25 : RunL P G none 0 (loopAt P 8 0) (St.mk (slots 126 [(3, AV.ptr 0 0), (5, AV.sl 9 false (encs r)), (9, int (↑at_ : Int)), (85, AV.sl 9 false (encs r)), (86, int (↑(List.length r) : Int)), (87, int 0)]) [AObj.box [int (CE.dv c), int (CE.sq c), int (CE.at' c), int (CE.ad c), int (CE.as' c), int (CE.aa c), int (CE.tm c), str (CE.vl c), Am.bool (CE.gn c)]] []) (AEx.exit 0) (St.mk (slots 126 [(3, AV.ptr 0 0), (5, AV.sl 9 false (encs r)), (9, int (↑at_ : Int))]) [AObj.box [int (CE.dv c), int (CE.sq c), int (CE.at' c), int (CE.ad c), int (CE.as' c), int (CE.aa c), int (CE.tm c), str (CE.vl c), Am.bool (CE.gn c)]] []) := (by have h0 := (@hL ); simp only [if_neg c2] at h0; exact h0)
    rcases Bool.eq_false_or_eq_true ((CE.ad c == 0 && (CE.as' c == 0 && CE.aa c == 0))) with c3 | c3
    · have h := h.1 c3
      by_cases c4 : ((↑at_ : Int) = (0 : Int))
      · have h := h.1 c4
        have _ := h
        exact callC_of [kc [] hz0, kf (Eq.refl false), kc [] hz1, kf (Eq.refl false), kc [] hz2, kc [] hz3, kf (Eq.refl false), kf (Eq.refl false), kc [] hz4, kf (Eq.refl false), kf (Eq.refl false), kv 59 hz5, kf hz6, ko (Orc.elem (enc c)), kp hz7, kf hz8, kv 74 hz9, kp hz10, kv 75 hz11, kp he1, kp hz12, kv 78 hz13, kv 79 hz14, kp hz15, kv 80 hz16, kp hz17, kp hz18, kp hz19, kc [1] hz20, kp hz21, kp hz22, kf (Eq.refl false), kv 86 hz23, kl [0, 1, 2, 4, 6, 7, 8, 10, 11, 12, 13, 14, 15, 16, 17, 18, 19, 20, 21, 22, 23, 24, 25, 26, 27, 28, 29, 30, 31, 32, 33, 34, 35, 36, 37, 38, 39, 40, 41, 42, 43, 44, 45, 46, 47, 48, 49, 50, 51, 52, 53, 54, 55, 56, 57, 58, 59, 60, 61, 62, 63, 64, 65, 66, 67, 68, 69, 70, 71, 72, 73, 74, 75, 76, 77, 78, 79, 80, 81, 82, 83, 84, 88, 89, 90, 91, 92, 93, 94, 95, 96, 97, 98, 99, 100, 101, 102, 103, 104, 105, 106, 107, 108, 109, 110, 111, 112, 113, 114, 115, 116, 117, 118, 119, 120, 121, 122, 123, 124, 125] 1 hz25, kc [] hz26, kt c3, kt (beq_iff_eq.2 c4)] (by kernel_rfl)
      · have h := h.2 c4
        rcases Bool.eq_false_or_eq_true ((o)) with c5 | c5
        · have h := h.1 c5
          have e1 := h
          exact callC_out (Sub.bool_eq e1) [kc [] hz0, kf (Eq.refl false), kc [] hz1, kf (Eq.refl false), kc [] hz2, kc [] hz3, kf (Eq.refl false), kf (Eq.refl false), kc [] hz4, kf (Eq.refl false), kf (Eq.refl false), kv 59 hz5, kf hz6, ko (Orc.elem (enc c)), kp hz7, kf hz8, kv 74 hz9, kp hz10, kv 75 hz11, kp he1, kp hz12, kv 78 hz13, kv 79 hz14, kp hz15, kv 80 hz16, kp hz17, kp hz18, kp hz19, kc [1] hz20, kp hz21, kp hz22, kf (Eq.refl false), kv 86 hz23, kl [0, 1, 2, 4, 6, 7, 8, 10, 11, 12, 13, 14, 15, 16, 17, 18, 19, 20, 21, 22, 23, 24, 25, 26, 27, 28, 29, 30, 31, 32, 33, 34, 35, 36, 37, 38, 39, 40, 41, 42, 43, 44, 45, 46, 47, 48, 49, 50, 51, 52, 53, 54, 55, 56, 57, 58, 59, 60, 61, 62, 63, 64, 65, 66, 67, 68, 69, 70, 71, 72, 73, 74, 75, 76, 77, 78, 79, 80, 81, 82, 83, 84, 88, 89, 90, 91, 92, 93, 94, 95, 96, 97, 98, 99, 100, 101, 102, 103, 104, 105, 106, 107, 108, 109, 110, 111, 112, 113, 114, 115, 116, 117, 118, 119, 120, 121, 122, 123, 124, 125] 1 hz25, kc [] hz26, kt c3, kf (beq_eq_false_iff_ne.2 c4), kt c5] (by kernel_rfl)
        · have h := h.2 c5
          have e1 := h
          exact callC_out (Sub.bool_eq e1) [kc [] hz0, kf (Eq.refl false), kc [] hz1, kf (Eq.refl false), kc [] hz2, kc [] hz3, kf (Eq.refl false), kf (Eq.refl false), kc [] hz4, kf (Eq.refl false), kf (Eq.refl false), kv 59 hz5, kf hz6, ko (Orc.elem (enc c)), kp hz7, kf hz8, kv 74 hz9, kp hz10, kv 75 hz11, kp he1, kp hz12, kv 78 hz13, kv 79 hz14, kp hz15, kv 80 hz16, kp hz17, kp hz18, kp hz19, kc [1] hz20, kp hz21, kp hz22, kf (Eq.refl false), kv 86 hz23, kl [0, 1, 2, 4, 6, 7, 8, 10, 11, 12, 13, 14, 15, 16, 17, 18, 19, 20, 21, 22, 23, 24, 25, 26, 27, 28, 29, 30, 31, 32, 33, 34, 35, 36, 37, 38, 39, 40, 41, 42, 43, 44, 45, 46, 47, 48, 49, 50, 51, 52, 53, 54, 55, 56, 57, 58, 59, 60, 61, 62, 63, 64, 65, 66, 67, 68, 69, 70, 71, 72, 73, 74, 75, 76, 77, 78, 79, 80, 81, 82, 83, 84, 88, 89, 90, 91, 92, 93, 94, 95, 96, 97, 98, 99, 100, 101, 102, 103, 104, 105, 106, 107, 108, 109, 110, 111, 112, 113, 114, 115, 116, 117, 118, 119, 120, 121, 122, 123, 124, 125] 1 hz25, kc [] hz26, kt c3, kf (beq_eq_false_iff_ne.2 c4), kf c5] (by kernel_rfl)
    · have h := h.2 c3
      rcases Bool.eq_false_or_eq_true ((o)) with c6 | c6
      · have h := h.1 c6
        have e1 := h
        exact callC_out (Sub.bool_eq e1) [kc [] hz0, kf (Eq.refl false), kc [] hz1, kf (Eq.refl false), kc [] hz2, kc [] hz3, kf (Eq.refl false), kf (Eq.refl false), kc [] hz4, kf (Eq.refl false), kf (Eq.refl false), kv 59 hz5, kf hz6, ko (Orc.elem (enc c)), kp hz7, kf hz8, kv 74 hz9, kp hz10, kv 75 hz11, kp he1, kp hz12, kv 78 hz13, kv 79 hz14, kp hz15, kv 80 hz16, kp hz17, kp hz18, kp hz19, kc [1] hz20, kp hz21, kp hz22, kf (Eq.refl false), kv 86 hz23, kl [0, 1, 2, 4, 6, 7, 8, 10, 11, 12, 13, 14, 15, 16, 17, 18, 19, 20, 21, 22, 23, 24, 25, 26, 27, 28, 29, 30, 31, 32, 33, 34, 35, 36, 37, 38, 39, 40, 41, 42, 43, 44, 45, 46, 47, 48, 49, 50, 51, 52, 53, 54, 55, 56, 57, 58, 59, 60, 61, 62, 63, 64, 65, 66, 67, 68, 69, 70, 71, 72, 73, 74, 75, 76, 77, 78, 79, 80, 81, 82, 83, 84, 88, 89, 90, 91, 92, 93, 94, 95, 96, 97, 98, 99, 100, 101, 102, 103, 104, 105, 106, 107, 108, 109, 110, 111, 112, 113, 114, 115, 116, 117, 118, 119, 120, 121, 122, 123, 124, 125] 1 hz25, kc [] hz26, kf c3, kf (Eq.refl false), kt c6] (by kernel_rfl)
      · have h := h.2 c6
        have e1 := h
        exact callC_out (Sub.bool_eq e1) [kc [] hz0, kf (Eq.refl false), kc [] hz1, kf (Eq.refl false), kc [] hz2, kc [] hz3, kf (Eq.refl false), kf (Eq.refl false), kc [] hz4, kf (Eq.refl false), kf (Eq.refl false), kv 59 hz5, kf hz6, ko (Orc.elem (enc c)), kp hz7, kf hz8, kv 74 hz9, kp hz10, kv 75 hz11, kp he1, kp hz12, kv 78 hz13, kv 79 hz14, kp hz15, kv 80 hz16, kp hz17, kp hz18, kp hz19, kc [1] hz20, kp hz21, kp hz22, kf (Eq.refl false), kv 86 hz23, kl [0, 1, 2, 4, 6, 7, 8, 10, 11, 12, 13, 14, 15, 16, 17, 18, 19, 20, 21, 22, 23, 24, 25, 26, 27, 28, 29, 30, 31, 32, 33, 34, 35, 36, 37, 38, 39, 40, 41, 42, 43, 44, 45, 46, 47, 48, 49, 50, 51, 52, 53, 54, 55, 56, 57, 58, 59, 60, 61, 62, 63, 64, 65, 66, 67, 68, 69, 70, 71, 72, 73, 74, 75, 76, 77, 78, 79, 80, 81, 82, 83, 84, 88, 89, 90, 91, 92, 93, 94, 95, 96, 97, 98, 99, 100, 101, 102, 103, 104, 105, 106, 107, 108, 109, 110, 111, 112, 113, 114, 115, 116, 117, 118, 119, 120, 121, 122, 123, 124, 125] 1 hz25, kc [] hz26, kf c3, kf (Eq.refl false), kf c6] (by kernel_rfl)

theorem kp_3 (l r x : List CE) (c : CE) (at_ : Nat) (b o : Bool) (pr : Int) (hcc : (c.dv == c.dv && (c.sq == c.sq && (c.at' == c.at' && (c.ad == c.ad && (c.as' == c.as' && (c.aa == c.aa && (c.tm == c.tm && (c.vl == c.vl && c.gn == c.gn)))))))) = true) (hx : x[at_]? = some c) (hlt : at_ < x.length) (hxl : x.length ≤ 41) (hr : r.length ≤ 40) (he1 : encs (List.take at_ x) = []) (he2 : ¬ encs (List.drop (at_ + 1) x) = []) (hf : CallC P G 12 [ces l] [] (.ret (bool true)) []) (h1 : CallC P G 13 [ces l] [] (.ret (.tup [ces r, int 0])) []) (h2 : CallC P G 18 [ces r, cel c] [] (.ret (.tup [ces x, int 0])) []) (h3 : CallC P G 22 [ces x, ida c.dv c.sq c.at'] [] (.ret (.tup [int at_, bool true])) []) (hT : CallC P G 15 [.own 0 0 0 (List.length (List.drop (at_ + 1) x)), ces r] [.arr 0 9 false (encs (List.drop (at_ + 1) x))] (.ret (bool true)) [.arr 0 9 true (encs (List.drop (at_ + 1) x))]) (hP : CallC P G 22 [ces r, ida c.ad c.as' c.aa] [] (.ret (.tup [int pr, bool o])) []) (hL : RunL P G none 0 (loopAt P 8 0) (kpS r c at_ 0) (if b = true then .ret else .exit 0) { env := slots 126 [(3, .ptr 0 0), (4, if b = true then bool true else .dead), (5, ces r), (9, int at_)], H := [.box (enc c)] }) (h : (((b = true) → True) ∧ ((¬b = true) → ((((CE.ad c == 0 && (CE.as' c == 0 && CE.aa c == 0)) = true) → ((((↑at_ : Int) = (0 : Int)) → True) ∧ ((¬(↑at_ : Int) = (0 : Int)) → ((((o) = true) → ((↑at_ : Int) == IntKind.wrap IntKind.i64 (pr + 1)) = (true)) ∧ (((o) = false) → (false) = (true)))))) ∧ (((CE.ad c == 0 && (CE.as' c == 0 && CE.aa c == 0)) = false) → ((((o) = true) → ((↑at_ : Int) == IntKind.wrap IntKind.i64 (pr + 1)) = (true)) ∧ (((o) = false) → (false) = (true)))))))) : CallC P G 8 [ces l, cel c] [] (AOut.ret (Am.bool true)) [] := by
  have hz0 := (@Go.Sq.sane_c )
  have hz1 := (@hf )
  have hz2 := (@h1 )
  have hz3 := (@h2 )
  have hz4 := (@h3 )
  have hz5 : Am.Sub (int (↑(List.length (encs x)) : Int)) (int (↑(List.length x) : Int)) := (Sub.of_eq (by simp only [Go.Sq.encs_length]))
  have hz6 : decide ((↑at_ : Int) ≥ (↑(List.length x) : Int)) = false := (decide_eq_false (by omega))
  have hz7 : (0 : Int) ≤ (↑at_ : Int) ∧ (encs x)[Int.toNat (↑at_ : Int)]? = some (enc c) := (el_nat hx)
  have hz8 : (!(CE.dv c == CE.dv c && (CE.sq c == CE.sq c && (CE.at' c == CE.at' c && (CE.ad c == CE.ad c && (CE.as' c == CE.as' c && (CE.aa c == CE.aa c && (CE.tm c == CE.tm c && (CE.vl c == CE.vl c && CE.gn c == CE.gn c))))))))) = false := (congrArg Bool.not (hcc))
  have hz9 : Am.Sub (AV.sl 9 false (List.drop 0 (List.take (Int.toNat (↑at_ : Int)) (encs x)))) (AV.sl 9 false (encs (List.take at_ x))) := (Sub.of_eq (by simp only [Go.Sq.encs_take, Int.toNat_natCast, List.drop_zero]))
  have hz10 : (0 : Int) ≤ (0 : Int) ∧ (0 : Int) ≤ (↑at_ : Int) ∧ (↑at_ : Int) ≤ (↑(List.length (encs x)) : Int) := (by rw [Go.Sq.encs_length]; omega)
  have hz11 : Am.Sub (int (IntKind.wrap IntKind.i64 ((↑at_ : Int) + 1))) (int (↑(at_ + 1) : Int)) := (Sub.of_wrap (by omega) (by omega) (by omega))
  have hz12 : Am.Sub (AV.sl 9 false (List.drop (Int.toNat (↑(at_ + 1) : Int)) (List.take (Int.toNat (↑(List.length (encs x)) : Int)) (encs x)))) (AV.sl 9 false (encs (List.drop (at_ + 1) x))) := (Sub.of_eq (by simp only [Go.Sq.encs_length, Go.Sq.encs_take, Go.Sq.encs_drop, Int.toNat_natCast, List.take_length]))
  have hz13 : (0 : Int) ≤ (↑(at_ + 1) : Int) ∧ (↑(at_ + 1) : Int) ≤ (↑(List.length (encs x)) : Int) ∧ (↑(List.length (encs x)) : Int) ≤ (↑(List.length (encs x)) : Int) := (by rw [Go.Sq.encs_length]; omega)
  have hz14 : Am.Sub (AV.own 1 0 0 (0 + List.length (encs (List.drop (at_ + 1) x)))) (AV.own 1 0 0 (List.length (List.drop (at_ + 1) x))) := (Sub.of_eq (by simp [Go.Sq.encs_length, Go.Sq.encs_ids, Go.Sq.encs_all, Go.Sq.encs_pure, List.length_drop, List.length_take]))
  have hz15 : (0 + List.length (encs (List.drop (at_ + 1) x))) * 80 ≤ 140737488355328 := (by simp only [List.length_append, List.length_cons, List.length_nil, List.length_map, Go.Sq.encs_length, Go.Sq.encs_ids, Go.Sq.encs_all, Go.Sq.encs_pure, List.length_drop, List.length_take] <;> omega)
  have hz16 := (@hT )
  have hz17 : ∀ (x_1 : List AV), x_1 ∈ encs (List.drop (at_ + 1) x) → AV.idsInL [] x_1 = true := (Go.Sq.encs_ids _)
  have hz18 : ∀ (x_1 : List AV), x_1 ∈ chunks (TypeInfo.size (Tables.types (Program.toTables P))[33]) 0 (zerosA (List.map AV.lit (Array.toList (Value.cells (Value.agg #[Value.int IntKind.i64 0, Value.int IntKind.i64 0, Value.int IntKind.i64 0, Value.int IntKind.i64 0, Value.int IntKind.i64 0, Value.int IntKind.i64 0, Value.int IntKind.i64 0, Value.string (ByteArray.mk #[]), Value.bool false])))) (0 * TypeInfo.size (Tables.types (Program.toTables P))[33])) ++ encs (List.drop (at_ + 1) x) → AV.idsInL [] x_1 = true := (Go.Sq.encs_ids _)
  have hz19 : Am.Sub (int (↑(List.length (encs r)) : Int)) (int (↑(List.length r) : Int)) := (Sub.of_eq (by simp only [Go.Sq.encs_length]))
  have hz22 := (@hP )
  by_cases c2 : (b = true)
  · have h := h.1 c2
    have _ := h
    exact callC_of [kc [] hz0, kf (Eq.refl false), kc [] hz1, kf (Eq.refl false), kc [] hz2, kc [] hz3, kf (Eq.refl false), kf (Eq.refl false), kc [] hz4, kf (Eq.refl false), kf (Eq.refl false), kv 59 hz5, kf hz6, ko (Orc.elem (enc c)), kp hz7, kf hz8, kv 74 hz9, ko (Orc.emp), kp hz10, kp he1, kv 78 hz11, kv 79 hz12, kp hz13, kv 80 hz14, kp he2, kp hz15, kc [1] hz16, kp hz17, kp hz18, kf (Eq.refl false), kv 86 hz19, kl [0, 1, 2, 4, 6, 7, 8, 10, 11, 12, 13, 14, 15, 16, 17, 18, 19, 20, 21, 22, 23, 24, 25, 26, 27, 28, 29, 30, 31, 32, 33, 34, 35, 36, 37, 38, 39, 40, 41, 42, 43, 44, 45, 46, 47, 48, 49, 50, 51, 52, 53, 54, 55, 56, 57, 58, 59, 60, 61, 62, 63, 64, 65, 66, 67, 68, 69, 70, 71, 72, 73, 74, 75, 76, 77, 78, 79, 80, 81, 82, 83, 84, 88, 89, 90, 91, 92, 93, 94, 95, 96, 97, 98, 99, 100, 101, 102, 103, 104, 105, 106, 107, 108, 109, 110, 111, 112, 113, 114, 115, 116, 117, 118, 119, 120, 121, 122, 123, 124, 125] 1 (show RunL P G none 0 (loopAt P 8 0) (St.mk (slots 126 [(3, AV.ptr 0 0), (5, AV.sl 9 false (encs r)), (9, int (↑at_ : Int)), (85, AV.sl 9 false (encs r)), (86, int (↑(List.length r) : Int)), (87, int 0)]) [AObj.box [int (CE.dv c), int (CE.sq c), int (CE.at' c), int (CE.ad c), int (CE.as' c), int (CE.aa c), int (CE.tm c), str (CE.vl c), Am.bool (CE.gn c)]] []) AEx.ret (St.mk (slots 126 [(3, AV.ptr 0 0), (4, Am.bool true), (5, AV.sl 9 false (encs r)), (9, int (↑at_ : Int))]) [AObj.box [int (CE.dv c), int (CE.sq c), int (CE.at' c), int (CE.ad c), int (CE.as' c), int (CE.aa c), int (CE.tm c), str (CE.vl c), Am.bool (CE.gn c)]] []) from (by have h0 := (@hL ); simp only [if_pos c2] at h0; exact h0))] (by kernel_rfl)
  · have h := h.2 c2
    have hz21 : RunL P G none 0 (loopAt P 8 0) (St.mk (slots 126 [(3, AV.ptr 0 0), (5, AV.sl 9 false (encs r)), (9, int (↑at_ : Int)), (85, AV.sl 9 false (encs r)), (86, int (↑(List.length r) : Int)), (87, int 0)]) [AObj.box [int (CE.dv c), int (CE.sq c), int (CE.at' c), int (CE.ad c), int (CE.as' c), int (CE.aa c), int (CE.tm c), str (CE.vl c), Am.bool (CE.gn c)]] []) (AEx.exit 0) (St.mk (slots 126 [(3, AV.ptr 0 0), (5, AV.sl 9 false (encs r)), (9, int (↑at_ : Int))]) [AObj.box [int (CE.dv c), int (CE.sq c), int (CE.at' c), int (CE.ad c), int (CE.as' c), int (CE.aa c), int (CE.tm c), str (CE.vl c), Am.bool (CE.gn c)]] []) := (by have h0 := (@hL ); simp only [if_neg c2] at h0; exact h0)
    rcases Bool.eq_false_or_eq_true ((CE.ad c == 0 && (CE.as' c == 0 && CE.aa c == 0))) with c3 | c3
    · have h := h.1 c3
      by_cases c4 : ((↑at_ : Int) = (0 : Int))
      · have h := h.1 c4
        have _ := h
        exact callC_of [kc [] hz0, kf (Eq.refl false), kc [] hz1, kf (Eq.refl false), kc [] hz2, kc [] hz3, kf (Eq.refl false), kf (Eq.refl false), kc [] hz4, kf (Eq.refl false), kf (Eq.refl false), kv 59 hz5, kf hz6, ko (Orc.elem (enc c)), kp hz7, kf hz8, kv 74 hz9, ko (Orc.emp), kp hz10, kp he1, kv 78 hz11, kv 79 hz12, kp hz13, kv 80 hz14, kp he2, kp hz15, kc [1] hz16, kp hz17, kp hz18, kf (Eq.refl false), kv 86 hz19, kl [0, 1, 2, 4, 6, 7, 8, 10, 11, 12, 13, 14, 15, 16, 17, 18, 19, 20, 21, 22, 23, 24, 25, 26, 27, 28, 29, 30, 31, 32, 33, 34, 35, 36, 37, 38, 39, 40, 41, 42, 43, 44, 45, 46, 47, 48, 49, 50, 51, 52, 53, 54, 55, 56, 57, 58, 59, 60, 61, 62, 63, 64, 65, 66, 67, 68, 69, 70, 71, 72, 73, 74, 75, 76, 77, 78, 79, 80, 81, 82, 83, 84, 88, 89, 90, 91, 92, 93, 94, 95, 96, 97, 98, 99, 100, 101, 102, 103, 104, 105, 106, 107, 108, 109, 110, 111, 112, 113, 114, 115, 116, 117, 118, 119, 120, 121, 122, 123, 124, 125] 1 hz21, kc [] hz22, kt c3, kt (beq_iff_eq.2 c4)] (by kernel_rfl)
      · have h := h.2 c4
        rcases Bool.eq_false_or_eq_true ((o)) with c5 | c5
        · have h := h.1 c5
          have e1 := h
          exact callC_out (Sub.bool_eq e1) [kc [] hz0, kf (Eq.refl false), kc [] hz1, kf (Eq.refl false), kc [] hz2, kc [] hz3, kf (Eq.refl false), kf (Eq.refl false), kc [] hz4, kf (Eq.refl false), kf (Eq.refl false), kv 59 hz5, kf hz6, ko (Orc.elem (enc c)), kp hz7, kf hz8, kv 74 hz9, ko (Orc.emp), kp hz10, kp he1, kv 78 hz11, kv 79 hz12, kp hz13, kv 80 hz14, kp he2, kp hz15, kc [1] hz16, kp hz17, kp hz18, kf (Eq.refl false), kv 86 hz19, kl [0, 1, 2, 4, 6, 7, 8, 10, 11, 12, 13, 14, 15, 16, 17, 18, 19, 20, 21, 22, 23, 24, 25, 26, 27, 28, 29, 30, 31, 32, 33, 34, 35, 36, 37, 38, 39, 40, 41, 42, 43, 44, 45, 46, 47, 48, 49, 50, 51, 52, 53, 54, 55, 56, 57, 58, 59, 60, 61, 62, 63, 64, 65, 66, 67, 68, 69, 70, 71, 72, 73, 74, 75, 76, 77, 78, 79, 80, 81, 82, 83, 84, 88, 89, 90, 91, 92, 93, 94, 95, 96, 97, 98, 99, 100, 101, 102, 103, 104, 105, 106, 107, 108, 109, 110, 111, 112, 113, 114, 115, 116, 117, 118, 119, 120, 121, 122, 123, 124, 125] 1 hz21, kc [] hz22, kt c3, kf (beq_eq_false_iff_ne.2 c4), kt c5] (by kernel_rfl)
        · have h := h.2 c5
          have e1 := h
          exact callC_out (Sub.bool_eq e1) [kc [] hz0, kf (Eq.refl false), kc [] hz1, kf (Eq.refl false), kc [] hz2, kc [] hz3, kf (Eq.refl false), kf (Eq.refl false), kc [] hz4, kf (Eq.refl false), kf (Eq.refl false), kv 59 hz5, kf hz6, ko (Orc.elem (enc c)), kp hz7, kf hz8, kv 74 hz9, ko (Orc.emp), kp hz10, kp he1, kv 78 hz11, kv 79 hz12, kp hz13, kv 80 hz14, kp he2, kp hz15, kc [1] hz16, kp hz17, kp hz18, kf (Eq.refl false), kv 86 hz19, kl [0, 1, 2, 4, 6, 7, 8, 10, 11, 12, 13, 14, 15, 16, 17, 18, 19, 20, 21, 22, 23, 24, 25, 26, 27, 28, 29, 30, 31, 32, 33, 34, 35, 36, 37, 38, 39, 40, 41, 42, 43, 44, 45, 46, 47, 48, 49, 50, 51, 52, 53, 54, 55, 56, 57, 58, 59, 60, 61, 62, 63, 64, 65, 66, 67, 68, 69, 70, 71, 72, 73, 74, 75, 76, 77, 78, 79, 80, 81, 82, 83, 84, 88, 89, 90, 91, 92, 93, 94, 95, 96, 97, 98, 99, 100, 101, 102, 103, 104, 105, 106, 107, 108, 109, 110, 111, 112, 113, 114, 115, 116, 117, 118, 119, 120, 121, 122, 123, 124, 125] 1 hz21, kc [] hz22, kt c3, kf (beq_eq_false_iff_ne.2 c4), kf c5] (by kernel_rfl)
    · have h := h.2 c3
      rcases Bool.eq_false_or_eq_true ((o)) with c6 | c6
      · have h := h.1 c6
        have e1 := h
        exact callC_out (Sub.bool_eq e1) [kc [] hz0, kf (Eq.refl false), kc [] hz1, kf (Eq.refl false), kc [] hz2, kc [] hz3, kf (Eq.refl false), kf (Eq.refl false), kc [] hz4, kf (Eq.refl false), kf (Eq.refl false), kv 59 hz5, kf hz6, ko (Orc.elem (enc c)), kp hz7, kf hz8, kv 74 hz9, ko (Orc.emp), kp hz10, kp he1, kv 78 hz11, kv 79 hz12, kp hz13, kv 80 hz14, kp he2, kp hz15, kc [1] hz16, kp hz17, kp hz18, kf (Eq.refl false), kv 86 hz19, kl [0, 1, 2, 4, 6, 7, 8, 10, 11, 12, 13, 14, 15, 16, 17, 18, 19, 20, 21, 22, 23, 24, 25, 26, 27, 28, 29, 30, 31, 32, 33, 34, 35, 36, 37, 38, 39, 40, 41, 42, 43, 44, 45, 46, 47, 48, 49, 50, 51, 52, 53, 54, 55, 56, 57, 58, 59, 60, 61, 62, 63, 64, 65, 66, 67, 68, 69, 70, 71, 72, 73, 74, 75, 76, 77, 78, 79, 80, 81, 82, 83, 84, 88, 89, 90, 91, 92, 93, 94, 95, 96, 97, 98, 99, 100, 101, 102, 103, 104, 105, 106, 107, 108, 109, 110, 111, 112, 113, 114, 115, 116, 117, 118, 119, 120, 121, 122, 123, 124, 125] 1 hz21, kc [] hz22, kf c3, kf (Eq.refl false), kt c6] (by kernel_rfl)
      · have h := h.2 c6
        have e1 := h
        exact callC_out (Sub.bool_eq e1) [kc [] hz0, kf (Eq.refl false), kc [] hz1, kf (Eq.refl false), kc [] hz2, kc [] hz3, kf (Eq.refl false), kf (Eq.refl false), kc [] hz4, kf (Eq.refl false), kf (Eq.refl false), kv 59 hz5, kf hz6, ko (Orc.elem (enc c)), kp hz7, kf hz8, kv 74 hz9, ko (Orc.emp), kp hz10, kp he1, kv 78 hz11, kv 79 hz12, kp hz13, kv 80 hz14, kp he2, kp hz15, kc [1] hz16, kp hz17, kp hz18, kf (Eq.refl false), kv 86 hz19, kl [0, 1, 2, 4, 6, 7, 8, 10, 11, 12, 13, 14, 15, 16, 17, 18, 19, 20, 21, 22, 23, 24, 25, 26, 27, 28, 29, 30, 31, 32, 33, 34, 35, 36, 37, 38, 39, 40, 41, 42, 43, 44, 45, 46, 47, 48, 49, 50, 51, 52, 53, 54, 55, 56, 57, 58, 59, 60, 61, 62, 63, 64, 65, 66, 67, 68, 69, 70, 71, 72, 73, 74, 75, 76, 77, 78, 79, 80, 81, 82, 83, 84, 88, 89, 90, 91, 92, 93, 94, 95, 96, 97, 98, 99, 100, 101, 102, 103, 104, 105, 106, 107, 108, 109, 110, 111, 112, 113, 114, 115, 116, 117, 118, 119, 120, 121, 122, 123, 124, 125] 1 hz21, kc [] hz22, kf c3, kf (Eq.refl false), kf c6] (by kernel_rfl)

theorem kp_4 (l r x : List CE) (c : CE) (at_ : Nat) (b o : Bool) (pr : Int) (hcc : (c.dv == c.dv && (c.sq == c.sq && (c.at' == c.at' && (c.ad == c.ad && (c.as' == c.as' && (c.aa == c.aa && (c.tm == c.tm && (c.vl == c.vl && c.gn == c.gn)))))))) = true) (hx : x[at_]? = some c) (hlt : at_ < x.length) (hxl : x.length ≤ 41) (hr : r.length ≤ 40) (he1 : encs (List.take at_ x) = []) (he2 : encs (List.drop (at_ + 1) x) = []) (hf : CallC P G 12 [ces l] [] (.ret (bool true)) []) (h1 : CallC P G 13 [ces l] [] (.ret (.tup [ces r, int 0])) []) (h2 : CallC P G 18 [ces r, cel c] [] (.ret (.tup [ces x, int 0])) []) (h3 : CallC P G 22 [ces x, ida c.dv c.sq c.at'] [] (.ret (.tup [int at_, bool true])) []) (hT : CallC P G 15 [.sl 9 true [], ces r] [] (.ret (bool true)) []) (hP : CallC P G 22 [ces r, ida c.ad c.as' c.aa] [] (.ret (.tup [int pr, bool o])) []) (hL : RunL P G none 0 (loopAt P 8 0) (kpS r c at_ 0) (if b = true then .ret else .exit 0) { env := slots 126 [(3, .ptr 0 0), (4, if b = true then bool true else .dead), (5, ces r), (9, int at_)], H := [.box (enc c)] }) (h : (((b = true) → True) ∧ ((¬b = true) → ((((CE.ad c == 0 && (CE.as' c == 0 && CE.aa c == 0)) = true) → ((((↑at_ : Int) = (0 : Int)) → True) ∧ ((¬(↑at_ : Int) = (0 : Int)) → ((((o) = true) → ((↑at_ : Int) == IntKind.wrap IntKind.i64 (pr + 1)) = (true)) ∧ (((o) = false) → (false) = (true)))))) ∧ (((CE.ad c == 0 && (CE.as' c == 0 && CE.aa c == 0)) = false) → ((((o) = true) → ((↑at_ : Int) == IntKind.wrap IntKind.i64 (pr + 1)) = (true)) ∧ (((o) = false) → (false) = (true)))))))) : CallC P G 8 [ces l, cel c] [] (AOut.ret (Am.bool true)) [] := by
  have hz0 := (@Go.Sq.sane_c )
  have hz1 := (@hf )
  have hz2 := (@h1 )
  have hz3 := (@h2 )
  have hz4 := (@h3 )
  have hz5 : Am.Sub (int (↑(List.length (encs x)) : Int)) (int (↑(List.length x) : Int)) := (Sub.of_eq (by simp only [Go.Sq.encs_length]))
  have hz6 : decide ((↑at_ : Int) ≥ (↑(List.length x) : Int)) = false := (decide_eq_false (by omega))
  have hz7 : (0 : Int) ≤ (↑at_ : Int) ∧ (encs x)[Int.toNat (↑at_ : Int)]? = some (enc c) := (el_nat hx)
  have hz8 : (!(CE.dv c == CE.dv c && (CE.sq c == CE.sq c && (CE.at' c == CE.at' c && (CE.ad c == CE.ad c && (CE.as' c == CE.as' c && (CE.aa c == CE.aa c && (CE.tm c == CE.tm c && (CE.vl c == CE.vl c && CE.gn c == CE.gn c))))))))) = false := (congrArg Bool.not (hcc))
  have hz9 : Am.Sub (AV.sl 9 false (List.drop 0 (List.take (Int.toNat (↑at_ : Int)) (encs x)))) (AV.sl 9 false (encs (List.take at_ x))) := (Sub.of_eq (by simp only [Go.Sq.encs_take, Int.toNat_natCast, List.drop_zero]))
  have hz10 : (0 : Int) ≤ (0 : Int) ∧ (0 : Int) ≤ (↑at_ : Int) ∧ (↑at_ : Int) ≤ (↑(List.length (encs x)) : Int) := (by rw [Go.Sq.encs_length]; omega)
  have hz11 : Am.Sub (int (IntKind.wrap IntKind.i64 ((↑at_ : Int) + 1))) (int (↑(at_ + 1) : Int)) := (Sub.of_wrap (by omega) (by omega) (by omega))
  have hz12 : Am.Sub (AV.sl 9 false (List.drop (Int.toNat (↑(at_ + 1) : Int)) (List.take (Int.toNat (↑(List.length (encs x)) : Int)) (encs x)))) (AV.sl 9 false (encs (List.drop (at_ + 1) x))) := (Sub.of_eq (by simp only [Go.Sq.encs_length, Go.Sq.encs_take, Go.Sq.encs_drop, Int.toNat_natCast, List.take_length]))
  have hz13 : (0 : Int) ≤ (↑(at_ + 1) : Int) ∧ (↑(at_ + 1) : Int) ≤ (↑(List.length (encs x)) : Int) ∧ (↑(List.length (encs x)) : Int) ≤ (↑(List.length (encs x)) : Int) := (by rw [Go.Sq.encs_length]; omega)
  have hz14 := (@hT )
  have hz15 : Am.Sub (int (↑(List.length (encs r)) : Int)) (int (↑(List.length r) : Int)) := (Sub.of_eq (by simp only [Go.Sq.encs_length]))
  have hz18 := (@hP )
  by_cases c2 : (b = true)
  · have h := h.1 c2
    have _ := h
    exact callC_of [kc [] hz0, kf (Eq.refl false), kc [] hz1, kf (Eq.refl false), kc [] hz2, kc [] hz3, kf (Eq.refl false), kf (Eq.refl false), kc [] hz4, kf (Eq.refl false), kf (Eq.refl false), kv 59 hz5, kf hz6, ko (Orc.elem (enc c)), kp hz7, kf hz8, kv 74 hz9, ko (Orc.emp), kp hz10, kp he1, kv 78 hz11, kv 79 hz12, ko (Orc.emp), kp hz13, kp he2, kc [] hz14, kf (Eq.refl false), kv 86 hz15, kl [0, 1, 2, 4, 6, 7, 8, 10, 11, 12, 13, 14, 15, 16, 17, 18, 19, 20, 21, 22, 23, 24, 25, 26, 27, 28, 29, 30, 31, 32, 33, 34, 35, 36, 37, 38, 39, 40, 41, 42, 43, 44, 45, 46, 47, 48, 49, 50, 51, 52, 53, 54, 55, 56, 57, 58, 59, 60, 61, 62, 63, 64, 65, 66, 67, 68, 69, 70, 71, 72, 73, 74, 75, 76, 77, 78, 79, 80, 81, 82, 83, 84, 88, 89, 90, 91, 92, 93, 94, 95, 96, 97, 98, 99, 100, 101, 102, 103, 104, 105, 106, 107, 108, 109, 110, 111, 112, 113, 114, 115, 116, 117, 118, 119, 120, 121, 122, 123, 124, 125] 1 (show RunL P G none 0 (loopAt P 8 0) (St.mk (slots 126 [(3, AV.ptr 0 0), (5, AV.sl 9 false (encs r)), (9, int (↑at_ : Int)), (85, AV.sl 9 false (encs r)), (86, int (↑(List.length r) : Int)), (87, int 0)]) [AObj.box [int (CE.dv c), int (CE.sq c), int (CE.at' c), int (CE.ad c), int (CE.as' c), int (CE.aa c), int (CE.tm c), str (CE.vl c), Am.bool (CE.gn c)]] []) AEx.ret (St.mk (slots 126 [(3, AV.ptr 0 0), (4, Am.bool true), (5, AV.sl 9 false (encs r)), (9, int (↑at_ : Int))]) [AObj.box [int (CE.dv c), int (CE.sq c), int (CE.at' c), int (CE.ad c), int (CE.as' c), int (CE.aa c), int (CE.tm c), str (CE.vl c), Am.bool (CE.gn c)]] []) from (by have h0 := (@hL ); simp only [if_pos c2] at h0; exact h0))] (by kernel_rfl)
  · have h := h.2 c2
    have hz17 : RunL P G none 0 (loopAt P 8 0) (St.mk (slots 126 [(3, AV.ptr 0 0), (5, AV.sl 9 false (encs r)), (9, int (↑at_ : Int)), (85, AV.sl 9 false (encs r)), (86, int (↑(List.length r) : Int)), (87, int 0)]) [AObj.box [int (CE.dv c), int (CE.sq c), int (CE.at' c), int (CE.ad c), int (CE.as' c), int (CE.aa c), int (CE.tm c), str (CE.vl c), Am.bool (CE.gn c)]] []) (AEx.exit 0) (St.mk (slots 126 [(3, AV.ptr 0 0), (5, AV.sl 9 false (encs r)), (9, int (↑at_ : Int))]) [AObj.box [int (CE.dv c), int (CE.sq c), int (CE.at' c), int (CE.ad c), int (CE.as' c), int (CE.aa c), int (CE.tm c), str (CE.vl c), Am.bool (CE.gn c)]] []) := (by have h0 := (@hL ); simp only [if_neg c2] at h0; exact h0)
    rcases Bool.eq_false_or_eq_true ((CE.ad c == 0 && (CE.as' c == 0 && CE.aa c == 0))) with c3 | c3
    · have h := h.1 c3
      by_cases c4 : ((↑at_ : Int) = (0 : Int))
      · have h := h.1 c4
        have _ := h
        exact callC_of [kc [] hz0, kf (Eq.refl false), kc [] hz1, kf (Eq.refl false), kc [] hz2, kc [] hz3, kf (Eq.refl false), kf (Eq.refl false), kc [] hz4, kf (Eq.refl false), kf (Eq.refl false), kv 59 hz5, kf hz6, ko (Orc.elem (enc c)), kp hz7, kf hz8, kv 74 hz9, ko (Orc.emp), kp hz10, kp he1, kv 78 hz11, kv 79 hz12, ko (Orc.emp), kp hz13, kp he2, kc [] hz14, kf (Eq.refl false), kv 86 hz15, kl [0, 1, 2, 4, 6, 7, 8, 10, 11, 12, 13, 14, 15, 16, 17, 18, 19, 20, 21, 22, 23, 24, 25, 26, 27, 28, 29, 30, 31, 32, 33, 34, 35, 36, 37, 38, 39, 40, 41, 42, 43, 44, 45, 46, 47, 48, 49, 50, 51, 52, 53, 54, 55, 56, 57, 58, 59, 60, 61, 62, 63, 64, 65, 66, 67, 68, 69, 70, 71, 72, 73, 74, 75, 76, 77, 78, 79, 80, 81, 82, 83, 84, 88, 89, 90, 91, 92, 93, 94, 95, 96, 97, 98, 99, 100, 101, 102, 103, 104, 105, 106, 107, 108, 109, 110, 111, 112, 113, 114, 115, 116, 117, 118, 119, 120, 121, 122, 123, 124, 125] 1 hz17, kc [] hz18, kt c3, kt (beq_iff_eq.2 c4)] (by kernel_rfl)
      · have h := h.2 c4
        rcases Bool.eq_false_or_eq_true ((o)) with c5 | c5
        · have h := h.1 c5
          have e1 := h
          exact callC_out (Sub.bool_eq e1) [kc [] hz0, kf (Eq.refl false), kc [] hz1, kf (Eq.refl false), kc [] hz2, kc [] hz3, kf (Eq.refl false), kf (Eq.refl false), kc [] hz4, kf (Eq.refl false), kf (Eq.refl false), kv 59 hz5, kf hz6, ko (Orc.elem (enc c)), kp hz7, kf hz8, kv 74 hz9, ko (Orc.emp), kp hz10, kp he1, kv 78 hz11, kv 79 hz12, ko (Orc.emp), kp hz13, kp he2, kc [] hz14, kf (Eq.refl false), kv 86 hz15, kl [0, 1, 2, 4, 6, 7, 8, 10, 11, 12, 13, 14, 15, 16, 17, 18, 19, 20, 21, 22, 23, 24, 25, 26, 27, 28, 29, 30, 31, 32, 33, 34, 35, 36, 37, 38, 39, 40, 41, 42, 43, 44, 45, 46, 47, 48, 49, 50, 51, 52, 53, 54, 55, 56, 57, 58, 59, 60, 61, 62, 63, 64, 65, 66, 67, 68, 69, 70, 71, 72, 73, 74, 75, 76, 77, 78, 79, 80, 81, 82, 83, 84, 88, 89, 90, 91, 92, 93, 94, 95, 96, 97, 98, 99, 100, 101, 102, 103, 104, 105, 106, 107, 108, 109, 110, 111, 112, 113, 114, 115, 116, 117, 118, 119, 120, 121, 122, 123, 124, 125] 1 hz17, kc [] hz18, kt c3, kf (beq_eq_false_iff_ne.2 c4), kt c5] (by kernel_rfl)
        · have h := h.2 c5
          have e1 := h
          exact callC_out (Sub.bool_eq e1) [kc [] hz0, kf (Eq.refl false), kc [] hz1, kf (Eq.refl false), kc [] hz2, kc [] hz3, kf (Eq.refl false), kf (Eq.refl false), kc [] hz4, kf (Eq.refl false), kf (Eq.refl false), kv 59 hz5, kf hz6, ko (Orc.elem (enc c)), kp hz7, kf hz8, kv 74 hz9, ko (Orc.emp), kp hz10, kp he1, kv 78 hz11, kv 79 hz12, ko (Orc.emp), kp hz13, kp he2, kc [] hz14, kf (Eq.refl false), kv 86 hz15, kl [0, 1, 2, 4, 6, 7, 8, 10, 11, 12, 13, 14, 15, 16, 17, 18, 19, 20, 21, 22, 23, 24, 25, 26, 27, 28, 29, 30, 31, 32, 33, 34, 35, 36, 37, 38, 39, 40, 41, 42, 43, 44, 45, 46, 47, 48, 49, 50, 51, 52, 53, 54, 55, 56, 57, 58, 59, 60, 61, 62, 63, 64, 65, 66, 67, 68, 69, 70, 71, 72, 73, 74, 75, 76, 77, 78, 79, 80, 81, 82, 83, 84, 88, 89, 90, 91, 92, 93, 94, 95, 96, 97, 98, 99, 100, 101, 102, 103, 104, 105, 106, 107, 108, 109, 110, 111, 112, 113, 114, 115, 116, 117, 118, 119, 120, 121, 122, 123, 124, 125] 1 hz17, kc [] hz18, kt c3, kf (beq_eq_false_iff_ne.2 c4), kf c5] (by kernel_rfl)
    · have h := h.2 c3
      rcases Bool.eq_false_or_eq_true ((o)) with c6 | c6
      · have h := h.1 c6
        have e1 := h
        exact callC_out (Sub.bool_eq e1) [kc [] hz0, kf (Eq.refl false), kc [] hz1, kf (Eq.refl false), kc [] hz2, kc [] hz3, kf (Eq.refl false), kf (Eq.refl false), kc [] hz4, kf (Eq.refl false), kf (Eq.refl false), kv 59 hz5, kf hz6, ko (Orc.elem (enc c)), kp hz7, kf hz8, kv 74 hz9, ko (Orc.emp), kp hz10, kp he1, kv 78 hz11, kv 79 hz12, ko (Orc.emp), kp hz13, kp he2, kc [] hz14, kf (Eq.refl false), kv 86 hz15, kl [0, 1, 2, 4, 6, 7, 8, 10, 11, 12, 13, 14, 15, 16, 17, 18, 19, 20, 21, 22, 23, 24, 25, 26, 27, 28, 29, 30, 31, 32, 33, 34, 35, 36, 37, 38, 39, 40, 41, 42, 43, 44, 45, 46, 47, 48, 49, 50, 51, 52, 53, 54, 55, 56, 57, 58, 59, 60, 61, 62, 63, 64, 65, 66, 67, 68, 69, 70, 71, 72, 73, 74, 75, 76, 77, 78, 79, 80, 81, 82, 83, 84, 88, 89, 90, 91, 92, 93, 94, 95, 96, 97, 98, 99, 100, 101, 102, 103, 104, 105, 106, 107, 108, 109, 110, 111, 112, 113, 114, 115, 116, 117, 118, 119, 120, 121, 122, 123, 124, 125] 1 hz17, kc [] hz18, kf c3, kf (Eq.refl false), kt c6] (by kernel_rfl)
      · have h := h.2 c6
        have e1 := h
        exact callC_out (Sub.bool_eq e1) [kc [] hz0, kf (Eq.refl false), kc [] hz1, kf (Eq.refl false), kc [] hz2, kc [] hz3, kf (Eq.refl false), kf (Eq.refl false), kc [] hz4, kf (Eq.refl false), kf (Eq.refl false), kv 59 hz5, kf hz6, ko (Orc.elem (enc c)), kp hz7, kf hz8, kv 74 hz9, ko (Orc.emp), kp hz10, kp he1, kv 78 hz11, kv 79 hz12, ko (Orc.emp), kp hz13, kp he2, kc [] hz14, kf (Eq.refl false), kv 86 hz15, kl [0, 1, 2, 4, 6, 7, 8, 10, 11, 12, 13, 14, 15, 16, 17, 18, 19, 20, 21, 22, 23, 24, 25, 26, 27, 28, 29, 30, 31, 32, 33, 34, 35, 36, 37, 38, 39, 40, 41, 42, 43, 44, 45, 46, 47, 48, 49, 50, 51, 52, 53, 54, 55, 56, 57, 58, 59, 60, 61, 62, 63, 64, 65, 66, 67, 68, 69, 70, 71, 72, 73, 74, 75, 76, 77, 78, 79, 80, 81, 82, 83, 84, 88, 89, 90, 91, 92, 93, 94, 95, 96, 97, 98, 99, 100, 101, 102, 103, 104, 105, 106, 107, 108, 109, 110, 111, 112, 113, 114, 115, 116, 117, 118, 119, 120, 121, 122, 123, 124, 125] 1 hz17, kc [] hz18, kf c3, kf (Eq.refl false), kf c6] (by kernel_rfl)

end Go.Sq

/- SEQUENCE, 48: Keeps. -/
namespace Go.Sq
set_option maxRecDepth 100000
set_option linter.unusedSimpArgs false
set_option linter.unusedVariables false
open Go Go.Am Go.Proofs Go.Seat

def sis (c s : CE) : Bool := (s.ad == c.ad && (s.as' == c.as' && s.aa == c.aa)) && gtB s c
def kpE (r : List CE) (c : CE) (at_ : Nat) (b : Bool) : St := { env := slots 126 [(3, .ptr 0 0), (4, if b = true then bool true else .dead), (5, ces r), (9, int at_)], H := [.box (enc c)] }
theorem kp_loop (r : List CE) (c : CE) (at_ : Nat) (hr : r.length ≤ 40) : ∀ d k, r.length - k = d → k ≤ r.length →
    RunL P G none 0 (loopAt P 8 0) (kpS r c at_ k) (if (r.drop k).any (sis c) = true then .ret else .exit 0) (kpE r c at_ ((r.drop k).any (sis c))) := by
  intro d
  induction d with
  | zero =>
    intro k hd hk
    rw [List.drop_eq_nil_of_le (by omega)]
    exact kp_e r c at_ k (by omega) trivial
  | succ d ih =>
    intro k hd hk
    have hlt : k < r.length := by omega
    have next := ih (k + 1) (by omega) (by omega)
    rw [List.drop_eq_getElem_cons hlt, List.any_cons]
    refine kp_r r c r[k] at_ k hr hlt (List.getElem?_eq_getElem hlt) _ _ ⟨fun h1 => ⟨fun h2 => ?_, fun h2 => ?_⟩, fun h1 => ?_⟩
    · have : sis c r[k] = true := by unfold sis; rw [h1, h2]; rfl
      rw [this]
      exact ⟨rfl, rfl⟩
    · have : sis c r[k] = false := by unfold sis; rw [h2]; simp
      rw [this, Bool.false_or]
      exact next
    · have : sis c r[k] = false := by unfold sis; rw [h1]; simp
      rw [this, Bool.false_or]
      exact next
theorem ins_cases (l : List CE) (c : CE) : insE l c = 0 ∧ chkE l = 0 ∧ formsB (l ++ [c]) = true ∧ insV l c = all (l ++ [c]) ∨ insE l c ≠ 0 ∧ insV l c = [] := by
  unfold insE insV
  by_cases h0 : chkE l = 0
  · by_cases hg : c.gn = true
    · right; simp [h0, hg]
    · rcases forms_or (l ++ [c]) with ⟨f1, f2, f3⟩ | ⟨f1, f2, f3⟩
      · left; simp [h0, hg, f1, f2, f3]
      · right; simp [h0, hg, f2, f3]
  · right; simp [h0]
theorem ce_beq (c : CE) : (c.dv == c.dv && (c.sq == c.sq && (c.at' == c.at' && (c.ad == c.ad && (c.as' == c.as' && (c.aa == c.aa && (c.tm == c.tm && (c.vl == c.vl && c.gn == c.gn)))))))) = true := by simp [ba_beq]
theorem own_same (u r : List CE) (g n : Nat) (xs : List (List AV)) (hx : xs = encs u) (hn : n = u.length) (hu : u.length ≤ 1000000) (h : u = r) : CallC P G 15 [.own 0 g 0 n, ces r] [.arr g 9 false xs] (.ret (bool true)) [.arr g 9 true xs] := by
  subst hx hn h
  exact CallC.frzArgR (by rw [← encs_length u, List.take_length]) (encs_length u) (encs_pure u) rfl rfl (same_self u (by omega))
theorem spec_keeps (l : List CE) (c : CE) (hR : OkRs l) (hc : OkR c) : CallC P G 8 [ces l, cel c] [] (.ret (bool true)) [] := by
  by_cases hf : l.length ≤ 40
  · have ho := order_c l (by omega) hR
    have hro := ordV_len l
    have hi := ins_c (ordV l) c (by omega) hR.ord hc
    rcases forms_or l with ⟨f1, f2, f3⟩ | ⟨f1, f2, f3⟩
    · rw [f2, f3] at ho
      rw [f3] at hi hro
      have hRa : OkRs (all l) := by rw [← f3]; exact hR.ord
      obtain ⟨o1, o2, o3⟩ := ord_ord f1
      rcases ins_cases (all l) c with ⟨i1, i2, i3, i4⟩ | ⟨i1, i2⟩
      · rw [i1, i4] at hi
        have hM : More (all l) c := ⟨o1, i3⟩
        obtain ⟨p, q, e1, e2, e3, e4⟩ := hM.keeps (by omega) o2
        have hxl : (all (all l ++ [c])).length ≤ 41 := by
          have := insV_len (all l) c
          rw [i4] at this
          omega
        have h3 := find_c (all (all l ++ [c])) c.dv c.sq c.at' (by omega)
        rw [e3] at h3
        have hP := find_c (all l) c.ad c.as' c.aa (by omega)
        have hL := kp_loop (all l) c p.length (by omega) (all l).length 0 rfl (Nat.zero_le _)
        rw [List.drop_zero] at hL
        have hx : (all (all l ++ [c]))[p.length]? = some c := by rw [e1]; simp
        have hlt : p.length < (all (all l ++ [c])).length := by rw [e1]; simp
        have ht : List.take p.length (all (all l ++ [c])) = p := by rw [e1]; simp
        have hd : List.drop (p.length + 1) (all (all l ++ [c])) = q := by rw [e1]; simp
        have hpq : p.length + q.length ≤ 40 := by
          have : (all l).length = p.length + q.length := by rw [e2]; simp
          omega
        have fin : ((all l).any (sis c) = true → True) ∧ (¬ (all l).any (sis c) = true → ((((c.ad == 0 && (c.as' == 0 && c.aa == 0)) = true) → ((((p.length : Int) = (0 : Int)) → True) ∧ ((¬(p.length : Int) = (0 : Int)) → (((((fiO (fX (pid c.ad c.as' c.aa) (all l))).2) = true) → ((p.length : Int) == IntKind.wrap IntKind.i64 ((fiO (fX (pid c.ad c.as' c.aa) (all l))).1 + 1)) = true) ∧ ((((fiO (fX (pid c.ad c.as' c.aa) (all l))).2) = false) → (false) = true))))) ∧ (((c.ad == 0 && (c.as' == 0 && c.aa == 0)) = false) → (((((fiO (fX (pid c.ad c.as' c.aa) (all l))).2) = true) → ((p.length : Int) == IntKind.wrap IntKind.i64 ((fiO (fX (pid c.ad c.as' c.aa) (all l))).1 + 1)) = true) ∧ ((((fiO (fX (pid c.ad c.as' c.aa) (all l))).2) = false) → (false) = true))))) := by
          refine ⟨fun _ => trivial, fun hb => ?_⟩
          have hg : ∀ s ∈ all l, s.after = c.after → gtB s c = false := fun s hs ha => by
            rw [Bool.eq_false_iff]
            intro hgt
            refine hb (List.any_eq_true.2 ⟨s, hs, ?_⟩)
            simp only [CE.after, Prod.mk.injEq] at ha
            simp [sis, ha.1, ha.2.1, ha.2.2, hgt]
          have found : ∀ m, fX (pid c.ad c.as' c.aa) (all l) = some m → p.length = m + 1 → (((fiO (fX (pid c.ad c.as' c.aa) (all l))).2 = true) → ((p.length : Int) == IntKind.wrap IntKind.i64 ((fiO (fX (pid c.ad c.as' c.aa) (all l))).1 + 1)) = true) ∧ (((fiO (fX (pid c.ad c.as' c.aa) (all l))).2 = false) → (false) = true) := fun m hm hp => by
            rw [hm]
            refine ⟨fun _ => ?_, fun h => by cases h⟩
            show ((p.length : Int) == IntKind.wrap IntKind.i64 ((m : Int) + 1)) = true
            have : IntKind.wrap IntKind.i64 ((m : Int) + 1) = (m : Int) + 1 := by
              simp [IntKind.wrap, IntKind.bits, IntKind.signed]; omega
            rw [this, beq_iff_eq]
            omega
          rcases e4 hg with ⟨r1, r2⟩ | ⟨m, m1, m2⟩
          · refine ⟨fun _ => ⟨fun _ => trivial, fun h => absurd (by rw [r2]; rfl) h⟩, fun h => ?_⟩
            simp only [CE.after, Prod.mk.injEq] at r1
            simp [r1.1, r1.2.1, r1.2.2] at h
          · exact ⟨fun _ => ⟨fun _ => trivial, fun _ => found m m1 m2⟩, fun _ => found m m1 m2⟩
        have encn : ∀ u : List CE, encs u = [] ↔ u = [] := fun u => by simp [encs]
        by_cases hp0 : p = []
        · by_cases hq0 : q = []
          · refine kp_4 l (all l) (all (all l ++ [c])) c p.length _ _ _ (ce_beq c) hx hlt hxl (by omega) (by rw [ht, encn]; exact hp0) (by rw [hd, encn]; exact hq0) (few_yes hf) ho hi h3 ?_ hP hL fin
            have e : all l = [] := by rw [e2, hp0, hq0]; rfl
            rw [e]
            exact (same_self [] (by decide)).args rfl fun j hj => by
              have : j < 2 := hj
              match j, this with
              | 0, _ => exact Sub.loose 9 true []
              | 1, _ => exact Sub.refl _
          · refine kp_3 l (all l) (all (all l ++ [c])) c p.length _ _ _ (ce_beq c) hx hlt hxl (by omega) (by rw [ht, encn]; exact hp0) (by rw [hd, encn]; exact hq0) (few_yes hf) ho hi h3 ?_ hP hL fin
            rw [hd]
            exact own_same q (all l) 0 _ _ rfl rfl (by omega) (by rw [e2, hp0]; rfl)
        · have hT : CallC P G 15 [.own 0 1 0 (List.length (List.take p.length (all (all l ++ [c]))) + List.length (List.drop (p.length + 1) (all (all l ++ [c])))), ces (all l)] [.arr 1 9 false (encs (List.take p.length (all (all l ++ [c]))) ++ encs (List.drop (p.length + 1) (all (all l ++ [c]))))] (.ret (bool true)) [.arr 1 9 true (encs (List.take p.length (all (all l ++ [c]))) ++ encs (List.drop (p.length + 1) (all (all l ++ [c]))))] := by
            rw [ht, hd]
            exact own_same (p ++ q) (all l) 1 _ _ (by simp [encs]) (by simp) (by simp; omega) e2.symm
          by_cases hq0 : q = []
          · exact kp_2 l (all l) (all (all l ++ [c])) c p.length _ _ _ (ce_beq c) hx hlt hxl (by omega) (by rw [ht, encn]; exact hp0) (by rw [hd, encn]; exact hq0) (few_yes hf) ho hi h3 hT hP hL fin
          · exact kp_1 l (all l) (all (all l ++ [c])) c p.length _ _ _ hx hlt hxl (by omega) (by rw [ht, encn]; exact hp0) (by rw [hd, encn]; exact hq0) (few_yes hf) ho hi h3 hT hP hL ⟨fun _ => fin, fun h => by rw [ce_beq c] at h; cases h⟩
      · rw [i2] at hi
        exact kp_f l (all l) c _ i1 (few_yes hf) ho hi trivial
    · rw [f2, f3] at ho
      rw [f3] at hi
      exact kp_b l [] _ c _ (few_yes hf) ho hi ⟨fun _ => trivial, fun _ => trivial⟩
  · exact kp_0 l c (few_no hf) trivial
end Go.Sq

/- SEQUENCE, 49: Keeps, as it is closed. -/
namespace Go.Sq
set_option maxRecDepth 100000
set_option linter.unusedSimpArgs false
set_option linter.unusedVariables false
open Go Go.Am Go.Proofs Go.Seat
theorem keeps_h (l : List CE) (c : CE) (h : OkRs l) (hc : OkR c) : CallC P G 8 [ces l, cel c] [] (.ret (Am.bool true)) [] := spec_keeps l c h hc
end Go.Sq
